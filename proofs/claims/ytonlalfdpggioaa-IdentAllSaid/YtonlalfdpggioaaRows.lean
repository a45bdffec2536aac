/-
  No cell of these rows narrows 'for every input' (looked for: loops, veiled, ifaces, maps, wideKeys, modest, calm, conditions, laid).
  DERIVED. THE GIVEN ROWS OF THIS SEAT. 7 by the template 'for every input the law returns true; each argument reads behind the call as it read before'; 0 by the template 'total and deterministic' (their statements: YtonlalfdpggioaaTotals.lean).
  GIVEN WITH THE SEED: the statements are not yours to turn. If you find one false, say at which input.
  Laid BY PROGRAM, IN A SANDBOX (cutbox-rows.mjs): the forced cells as the released guide's own fill.sh prints them over the translation dfd2f8466c6a609f… (all of the seat's roots in one cut). By AI agents, Wed Nov 11 2026. No macro, syntax, notation, axiom, sorry.
-/
import Derived.Test.YtonlalfdpggioaaChecked
import GoSem.Claim
import GoSem.ClaimJoined
import GoSem.ClaimMapViews
import Derived.JoinedTies
import Derived.KernelRfl
namespace Go.Proofs.Ytonlalfdpggioaa
/- THE CELL 'sum', in the pinned program and in every row, IS THE sha256 OF THE DUMP (.gsa) THAT YtonlalfdpggioaaProg.lean LOADS. Nothing in Lean hashes anything: it is a label: what it is worth is what the hold of that sum in a sandbox is worth. -/
noncomputable def Try.pinned : Pinned := { name := "ytonlalfdpggioaa", sum := "dfd2f8466c6a609f40984440600cc7fb963ee49c8c2231a6fe3bf219d7497d8e", checked := Try.checked }
namespace Rows
def none {H : Type} : Left H := { results := [], args := [] }

/-- 'recyclinglaw04.IdentValid': WHATEVER THE INPUT: true; the input reads as it did. -/
def identValidSpec : ChangeSpec := { name := "identValid", fn := fun _ => fun
  | [d] => { results := [.lit (.bool true)], args := [d] }
  | _ => none }
def identValidRow : OpenClaim := { program := "ytonlalfdpggioaa", sum := "dfd2f8466c6a609f40984440600cc7fb963ee49c8c2231a6fe3bf219d7497d8e", func := "recycling/recyclinglaw04.IdentValid", spec := "identValid", apart := false }
def IdentValidSaid : Prop := identValidRow.holds Try.pinned (OpenSpec.ofChange identValidSpec)

/-- ITS FALSE NEIGHBOUR: 'it returns false'. Refute it at one input. -/
def identValidWrong : ChangeSpec := { name := "identValid", fn := fun _ => fun
  | [d] => { results := [.lit (.bool false)], args := [d] }
  | _ => none }
def IdentValidWrongFalsely : Prop := identValidRow.holds Try.pinned (OpenSpec.ofChange identValidWrong)

/-- 'recyclinglaw04.IdentNews': WHATEVER THE INPUT: true; the input reads as it did. -/
def identNewsSpec : ChangeSpec := { name := "identNews", fn := fun _ => fun
  | [d] => { results := [.lit (.bool true)], args := [d] }
  | _ => none }
def identNewsRow : OpenClaim := { program := "ytonlalfdpggioaa", sum := "dfd2f8466c6a609f40984440600cc7fb963ee49c8c2231a6fe3bf219d7497d8e", func := "recycling/recyclinglaw04.IdentNews", spec := "identNews", apart := false }
def IdentNewsSaid : Prop := identNewsRow.holds Try.pinned (OpenSpec.ofChange identNewsSpec)

/-- ITS FALSE NEIGHBOUR: 'it returns false'. Refute it at one input. -/
def identNewsWrong : ChangeSpec := { name := "identNews", fn := fun _ => fun
  | [d] => { results := [.lit (.bool false)], args := [d] }
  | _ => none }
def IdentNewsWrongFalsely : Prop := identNewsRow.holds Try.pinned (OpenSpec.ofChange identNewsWrong)

/-- 'recyclinglaw04.IdentPlays': WHATEVER THE INPUT: true; the input reads as it did. -/
def identPlaysSpec : ChangeSpec := { name := "identPlays", fn := fun _ => fun
  | [d1, d2] => { results := [.lit (.bool true)], args := [d1, d2] }
  | _ => none }
def identPlaysRow : OpenClaim := { program := "ytonlalfdpggioaa", sum := "dfd2f8466c6a609f40984440600cc7fb963ee49c8c2231a6fe3bf219d7497d8e", func := "recycling/recyclinglaw04.IdentPlays", spec := "identPlays", apart := false }
def IdentPlaysSaid : Prop := identPlaysRow.holds Try.pinned (OpenSpec.ofChange identPlaysSpec)

/-- ITS FALSE NEIGHBOUR: 'it returns false'. Refute it at one input. -/
def identPlaysWrong : ChangeSpec := { name := "identPlays", fn := fun _ => fun
  | [d1, d2] => { results := [.lit (.bool false)], args := [d1, d2] }
  | _ => none }
def IdentPlaysWrongFalsely : Prop := identPlaysRow.holds Try.pinned (OpenSpec.ofChange identPlaysWrong)

/-- 'recyclinglaw04.IdentTable': WHATEVER THE INPUT: true; the input reads as it did. -/
def identTableSpec : ChangeSpec := { name := "identTable", fn := fun _ => fun
  | [d1, d2, d3] => { results := [.lit (.bool true)], args := [d1, d2, d3] }
  | _ => none }
def identTableRow : OpenClaim := { program := "ytonlalfdpggioaa", sum := "dfd2f8466c6a609f40984440600cc7fb963ee49c8c2231a6fe3bf219d7497d8e", func := "recycling/recyclinglaw04.IdentTable", spec := "identTable", apart := false }
def IdentTableSaid : Prop := identTableRow.holds Try.pinned (OpenSpec.ofChange identTableSpec)

/-- ITS FALSE NEIGHBOUR: 'it returns false'. Refute it at one input. -/
def identTableWrong : ChangeSpec := { name := "identTable", fn := fun _ => fun
  | [d1, d2, d3] => { results := [.lit (.bool false)], args := [d1, d2, d3] }
  | _ => none }
def IdentTableWrongFalsely : Prop := identTableRow.holds Try.pinned (OpenSpec.ofChange identTableWrong)

/-- 'recyclinglaw04.IdentGrows': WHATEVER THE INPUT: true; the input reads as it did. -/
def identGrowsSpec : ChangeSpec := { name := "identGrows", fn := fun _ => fun
  | [d1, d2] => { results := [.lit (.bool true)], args := [d1, d2] }
  | _ => none }
def identGrowsRow : OpenClaim := { program := "ytonlalfdpggioaa", sum := "dfd2f8466c6a609f40984440600cc7fb963ee49c8c2231a6fe3bf219d7497d8e", func := "recycling/recyclinglaw04.IdentGrows", spec := "identGrows", apart := false }
def IdentGrowsSaid : Prop := identGrowsRow.holds Try.pinned (OpenSpec.ofChange identGrowsSpec)

/-- ITS FALSE NEIGHBOUR: 'it returns false'. Refute it at one input. -/
def identGrowsWrong : ChangeSpec := { name := "identGrows", fn := fun _ => fun
  | [d1, d2] => { results := [.lit (.bool false)], args := [d1, d2] }
  | _ => none }
def IdentGrowsWrongFalsely : Prop := identGrowsRow.holds Try.pinned (OpenSpec.ofChange identGrowsWrong)

/-- 'recyclinglaw04.IdentAll': WHATEVER THE INPUT: true; the input reads as it did. -/
def identAllSpec : ChangeSpec := { name := "identAll", fn := fun _ => fun
  | [d1, d2, d3] => { results := [.lit (.bool true)], args := [d1, d2, d3] }
  | _ => none }
def identAllRow : OpenClaim := { program := "ytonlalfdpggioaa", sum := "dfd2f8466c6a609f40984440600cc7fb963ee49c8c2231a6fe3bf219d7497d8e", func := "recycling/recyclinglaw04.IdentAll", spec := "identAll", unfollowed := true, recurses := true, apart := false }
def IdentAllSaid : Prop := identAllRow.holds Try.pinned (OpenSpec.ofChange identAllSpec)

/-- ITS FALSE NEIGHBOUR: 'it returns false'. Refute it at one input. -/
def identAllWrong : ChangeSpec := { name := "identAll", fn := fun _ => fun
  | [d1, d2, d3] => { results := [.lit (.bool false)], args := [d1, d2, d3] }
  | _ => none }
def IdentAllWrongFalsely : Prop := identAllRow.holds Try.pinned (OpenSpec.ofChange identAllWrong)

/-- 'recyclinglaw04.IdentNil': WHATEVER THE INPUT: true; the input reads as it did. -/
def identNilSpec : ChangeSpec := { name := "identNil", fn := fun _ => fun
  | [d1, d2] => { results := [.lit (.bool true)], args := [d1, d2] }
  | _ => none }
def identNilRow : OpenClaim := { program := "ytonlalfdpggioaa", sum := "dfd2f8466c6a609f40984440600cc7fb963ee49c8c2231a6fe3bf219d7497d8e", func := "recycling/recyclinglaw04.IdentNil", spec := "identNil", unfollowed := true, recurses := true, apart := false }
def IdentNilSaid : Prop := identNilRow.holds Try.pinned (OpenSpec.ofChange identNilSpec)

/-- ITS FALSE NEIGHBOUR: 'it returns false'. Refute it at one input. -/
def identNilWrong : ChangeSpec := { name := "identNil", fn := fun _ => fun
  | [d1, d2] => { results := [.lit (.bool false)], args := [d1, d2] }
  | _ => none }
def IdentNilWrongFalsely : Prop := identNilRow.holds Try.pinned (OpenSpec.ofChange identNilWrong)

/- THE SECOND FORM. 'bulk': how many values and letters a reading holds, each counted each time it is reached (what is shared counts as often as it is met; a slice's spare places count too). A statement '..UptoSaid' is the law's where the arguments, and the package variables that the reading takes, are together of bulk at most 1048576: NARROWER than '..Said'. Prove '..Said' where nothing that the law and all that it calls make is longer than what came in: it says more and counts as full. Else prove '..UptoSaid'. A law counts once. -/
mutual
def uptoBulk {H : Type} : DataW H → Nat
  | .lit (.string bytes) => bytes.length + 1
  | .lit _ => 1
  | .nil => 1
  | .ptr d => uptoBulk d + 1
  | .slice elems spare => uptoBulkAll elems + uptoBulkAll spare + 1
  | .agg parts => uptoBulkAll parts + 1
  | .iface _ d => uptoBulk d + 1
  | .map entries => uptoBulkEntries entries + 1
  | .held _ => 1
def uptoBulkAll {H : Type} : List (DataW H) → Nat
  | [] => 0
  | d :: r => uptoBulk d + uptoBulkAll r
def uptoBulkEntries {H : Type} : List (Lit × DataW H) → Nat
  | [] => 0
  | x :: r => uptoBulkEntry x + uptoBulkEntries r
def uptoBulkEntry {H : Type} : Lit × DataW H → Nat
  | (.string bytes, d) => bytes.length + uptoBulk d + 1
  | (_, d) => uptoBulk d + 1
 end
def uptoSmall : (H : Type) → List (DataW H) → Bool := fun _ ds => decide (uptoBulkAll ds ≤ 1048576)
def OpenSpec.upto (s : _root_.Go.ChangeSpec) : _root_.Go.OpenSpec := { _root_.Go.OpenSpec.ofChange s with cond := some uptoSmall }

/-- 'recyclinglaw04.IdentValid', WHERE WHAT IT READS IS OF BULK AT MOST 1048576: true; the input reads as it did. -/
def identValidUptoRow : OpenClaim := { program := "ytonlalfdpggioaa", sum := "dfd2f8466c6a609f40984440600cc7fb963ee49c8c2231a6fe3bf219d7497d8e", func := "recycling/recyclinglaw04.IdentValid", spec := "identValid", apart := false, narrowed := true }
def IdentValidUptoSaid : Prop := identValidUptoRow.holds Try.pinned (OpenSpec.upto identValidSpec)

/-- 'recyclinglaw04.IdentNews', WHERE WHAT IT READS IS OF BULK AT MOST 1048576: true; the input reads as it did. -/
def identNewsUptoRow : OpenClaim := { program := "ytonlalfdpggioaa", sum := "dfd2f8466c6a609f40984440600cc7fb963ee49c8c2231a6fe3bf219d7497d8e", func := "recycling/recyclinglaw04.IdentNews", spec := "identNews", apart := false, narrowed := true }
def IdentNewsUptoSaid : Prop := identNewsUptoRow.holds Try.pinned (OpenSpec.upto identNewsSpec)

/-- 'recyclinglaw04.IdentPlays', WHERE WHAT IT READS IS OF BULK AT MOST 1048576: true; the input reads as it did. -/
def identPlaysUptoRow : OpenClaim := { program := "ytonlalfdpggioaa", sum := "dfd2f8466c6a609f40984440600cc7fb963ee49c8c2231a6fe3bf219d7497d8e", func := "recycling/recyclinglaw04.IdentPlays", spec := "identPlays", apart := false, narrowed := true }
def IdentPlaysUptoSaid : Prop := identPlaysUptoRow.holds Try.pinned (OpenSpec.upto identPlaysSpec)

/-- 'recyclinglaw04.IdentTable', WHERE WHAT IT READS IS OF BULK AT MOST 1048576: true; the input reads as it did. -/
def identTableUptoRow : OpenClaim := { program := "ytonlalfdpggioaa", sum := "dfd2f8466c6a609f40984440600cc7fb963ee49c8c2231a6fe3bf219d7497d8e", func := "recycling/recyclinglaw04.IdentTable", spec := "identTable", apart := false, narrowed := true }
def IdentTableUptoSaid : Prop := identTableUptoRow.holds Try.pinned (OpenSpec.upto identTableSpec)

/-- 'recyclinglaw04.IdentGrows', WHERE WHAT IT READS IS OF BULK AT MOST 1048576: true; the input reads as it did. -/
def identGrowsUptoRow : OpenClaim := { program := "ytonlalfdpggioaa", sum := "dfd2f8466c6a609f40984440600cc7fb963ee49c8c2231a6fe3bf219d7497d8e", func := "recycling/recyclinglaw04.IdentGrows", spec := "identGrows", apart := false, narrowed := true }
def IdentGrowsUptoSaid : Prop := identGrowsUptoRow.holds Try.pinned (OpenSpec.upto identGrowsSpec)

/-- 'recyclinglaw04.IdentAll', WHERE WHAT IT READS IS OF BULK AT MOST 1048576: true; the input reads as it did. -/
def identAllUptoRow : OpenClaim := { program := "ytonlalfdpggioaa", sum := "dfd2f8466c6a609f40984440600cc7fb963ee49c8c2231a6fe3bf219d7497d8e", func := "recycling/recyclinglaw04.IdentAll", spec := "identAll", unfollowed := true, recurses := true, apart := false, narrowed := true }
def IdentAllUptoSaid : Prop := identAllUptoRow.holds Try.pinned (OpenSpec.upto identAllSpec)

/-- 'recyclinglaw04.IdentNil', WHERE WHAT IT READS IS OF BULK AT MOST 1048576: true; the input reads as it did. -/
def identNilUptoRow : OpenClaim := { program := "ytonlalfdpggioaa", sum := "dfd2f8466c6a609f40984440600cc7fb963ee49c8c2231a6fe3bf219d7497d8e", func := "recycling/recyclinglaw04.IdentNil", spec := "identNil", unfollowed := true, recurses := true, apart := false, narrowed := true }
def IdentNilUptoSaid : Prop := identNilUptoRow.holds Try.pinned (OpenSpec.upto identNilSpec)

end Rows
end Go.Proofs.Ytonlalfdpggioaa
