/-
  No cell of these rows narrows 'for every input' (looked for: loops, veiled, ifaces, maps, wideKeys, modest, calm, conditions, laid).
  DERIVED. THE GIVEN ROWS OF THIS SEAT. 6 by the template 'for every input the law returns true; each argument reads behind the call as it read before'; 0 by the template 'total and deterministic' (their statements: YtpeidgfaejnhiaaTotals.lean).
  GIVEN WITH THE SEED: the statements are not yours to turn. If you find one false, say at which input.
  Laid BY PROGRAM, IN A SANDBOX (cutbox-rows.mjs): the forced cells as the released guide's own fill.sh prints them over the translation bc60e4f00782b500… (all of the seat's roots in one cut). By AI agents, Wed Nov 11 2026. No macro, syntax, notation, axiom, sorry.
-/
import Derived.Test.YtpeidgfaejnhiaaChecked
import GoSem.Claim
import GoSem.ClaimJoined
import GoSem.ClaimMapViews
import Derived.JoinedTies
import Derived.KernelRfl
namespace Go.Proofs.Ytpeidgfaejnhiaa
/- THE CELL 'sum', in the pinned program and in every row, IS THE sha256 OF THE DUMP (.gsa) THAT YtpeidgfaejnhiaaProg.lean LOADS. Nothing in Lean hashes anything: it is a label: what it is worth is what the hold of that sum in a sandbox is worth. -/
noncomputable def Try.pinned : Pinned := { name := "ytpeidgfaejnhiaa", sum := "bc60e4f00782b50078bf5d4eb8e75a8390513b0248fc6519098e3d5643c37032", checked := Try.checked }
namespace Rows
def none {H : Type} : Left H := { results := [], args := [] }

/-- 'recyclinglaw21.DemandMakes': WHATEVER THE INPUT: true; the input reads as it did. -/
def demandMakesSpec : ChangeSpec := { name := "demandMakes", fn := fun _ => fun
  | [d] => { results := [.lit (.bool true)], args := [d] }
  | _ => none }
def demandMakesRow : OpenClaim := { program := "ytpeidgfaejnhiaa", sum := "bc60e4f00782b50078bf5d4eb8e75a8390513b0248fc6519098e3d5643c37032", func := "recycling/recyclinglaw21.DemandMakes", spec := "demandMakes", unfollowed := true, recurses := true, apart := false }
def DemandMakesSaid : Prop := demandMakesRow.holds Try.pinned (OpenSpec.ofChange demandMakesSpec)

/-- ITS FALSE NEIGHBOUR: 'it returns false'. Refute it at one input. -/
def demandMakesWrong : ChangeSpec := { name := "demandMakes", fn := fun _ => fun
  | [d] => { results := [.lit (.bool false)], args := [d] }
  | _ => none }
def DemandMakesWrongFalsely : Prop := demandMakesRow.holds Try.pinned (OpenSpec.ofChange demandMakesWrong)

/-- 'recyclinglaw21.DemandWhys': WHATEVER THE INPUT: true; the input reads as it did. -/
def demandWhysSpec : ChangeSpec := { name := "demandWhys", fn := fun _ => fun
  | [d1, d2] => { results := [.lit (.bool true)], args := [d1, d2] }
  | _ => none }
def demandWhysRow : OpenClaim := { program := "ytpeidgfaejnhiaa", sum := "bc60e4f00782b50078bf5d4eb8e75a8390513b0248fc6519098e3d5643c37032", func := "recycling/recyclinglaw21.DemandWhys", spec := "demandWhys", unfollowed := true, recurses := true, apart := false }
def DemandWhysSaid : Prop := demandWhysRow.holds Try.pinned (OpenSpec.ofChange demandWhysSpec)

/-- ITS FALSE NEIGHBOUR: 'it returns false'. Refute it at one input. -/
def demandWhysWrong : ChangeSpec := { name := "demandWhys", fn := fun _ => fun
  | [d1, d2] => { results := [.lit (.bool false)], args := [d1, d2] }
  | _ => none }
def DemandWhysWrongFalsely : Prop := demandWhysRow.holds Try.pinned (OpenSpec.ofChange demandWhysWrong)

/-- 'recyclinglaw21.DemandChecks': WHATEVER THE INPUT: true; the input reads as it did. -/
def demandChecksSpec : ChangeSpec := { name := "demandChecks", fn := fun _ => fun
  | [d1, d2, d3] => { results := [.lit (.bool true)], args := [d1, d2, d3] }
  | _ => none }
def demandChecksRow : OpenClaim := { program := "ytpeidgfaejnhiaa", sum := "bc60e4f00782b50078bf5d4eb8e75a8390513b0248fc6519098e3d5643c37032", func := "recycling/recyclinglaw21.DemandChecks", spec := "demandChecks", unfollowed := true, recurses := true, apart := false }
def DemandChecksSaid : Prop := demandChecksRow.holds Try.pinned (OpenSpec.ofChange demandChecksSpec)

/-- ITS FALSE NEIGHBOUR: 'it returns false'. Refute it at one input. -/
def demandChecksWrong : ChangeSpec := { name := "demandChecks", fn := fun _ => fun
  | [d1, d2, d3] => { results := [.lit (.bool false)], args := [d1, d2, d3] }
  | _ => none }
def DemandChecksWrongFalsely : Prop := demandChecksRow.holds Try.pinned (OpenSpec.ofChange demandChecksWrong)

/-- 'recyclinglaw21.DemandReasons': WHATEVER THE INPUT: true; the input reads as it did. -/
def demandReasonsSpec : ChangeSpec := { name := "demandReasons", fn := fun _ => fun
  | [d] => { results := [.lit (.bool true)], args := [d] }
  | _ => none }
def demandReasonsRow : OpenClaim := { program := "ytpeidgfaejnhiaa", sum := "bc60e4f00782b50078bf5d4eb8e75a8390513b0248fc6519098e3d5643c37032", func := "recycling/recyclinglaw21.DemandReasons", spec := "demandReasons", unfollowed := true, recurses := true, apart := false }
def DemandReasonsSaid : Prop := demandReasonsRow.holds Try.pinned (OpenSpec.ofChange demandReasonsSpec)

/-- ITS FALSE NEIGHBOUR: 'it returns false'. Refute it at one input. -/
def demandReasonsWrong : ChangeSpec := { name := "demandReasons", fn := fun _ => fun
  | [d] => { results := [.lit (.bool false)], args := [d] }
  | _ => none }
def DemandReasonsWrongFalsely : Prop := demandReasonsRow.holds Try.pinned (OpenSpec.ofChange demandReasonsWrong)

/-- 'recyclinglaw21.DemandValid': WHATEVER THE INPUT: true; the input reads as it did. -/
def demandValidSpec : ChangeSpec := { name := "demandValid", fn := fun _ => fun
  | [d] => { results := [.lit (.bool true)], args := [d] }
  | _ => none }
def demandValidRow : OpenClaim := { program := "ytpeidgfaejnhiaa", sum := "bc60e4f00782b50078bf5d4eb8e75a8390513b0248fc6519098e3d5643c37032", func := "recycling/recyclinglaw21.DemandValid", spec := "demandValid", unfollowed := true, recurses := true, apart := false }
def DemandValidSaid : Prop := demandValidRow.holds Try.pinned (OpenSpec.ofChange demandValidSpec)

/-- ITS FALSE NEIGHBOUR: 'it returns false'. Refute it at one input. -/
def demandValidWrong : ChangeSpec := { name := "demandValid", fn := fun _ => fun
  | [d] => { results := [.lit (.bool false)], args := [d] }
  | _ => none }
def DemandValidWrongFalsely : Prop := demandValidRow.holds Try.pinned (OpenSpec.ofChange demandValidWrong)

/-- 'recyclinglaw21.DemandLower': WHATEVER THE INPUT: true; the input reads as it did. -/
def demandLowerSpec : ChangeSpec := { name := "demandLower", fn := fun _ => fun
  | [d1, d2, d3] => { results := [.lit (.bool true)], args := [d1, d2, d3] }
  | _ => none }
def demandLowerRow : OpenClaim := { program := "ytpeidgfaejnhiaa", sum := "bc60e4f00782b50078bf5d4eb8e75a8390513b0248fc6519098e3d5643c37032", func := "recycling/recyclinglaw21.DemandLower", spec := "demandLower", unfollowed := true, recurses := true, apart := false }
def DemandLowerSaid : Prop := demandLowerRow.holds Try.pinned (OpenSpec.ofChange demandLowerSpec)

/-- ITS FALSE NEIGHBOUR: 'it returns false'. Refute it at one input. -/
def demandLowerWrong : ChangeSpec := { name := "demandLower", fn := fun _ => fun
  | [d1, d2, d3] => { results := [.lit (.bool false)], args := [d1, d2, d3] }
  | _ => none }
def DemandLowerWrongFalsely : Prop := demandLowerRow.holds Try.pinned (OpenSpec.ofChange demandLowerWrong)

/- THE SECOND FORM. 'bulk': how many values and letters a reading holds, each counted each time it is reached (what is shared counts as often as it is met; a slice's spare places count too). A statement '..UptoSaid' is the law's where the arguments, and the package variables that the reading takes, are together of bulk at most 1048576: NARROWER than '..Said'. Prove '..Said' where nothing that the law and all that it calls make is longer than what came in: it says more and counts as full. Else prove '..UptoSaid'. A law counts once. -/
mutual
def uptoBulk {H : Type} : DataW H → Nat
  | .lit (.string bytes) => bytes.length + 1
  | .lit _ => 1
  | .nil => 1
  | .ptr d => uptoBulk d + 1
  | .slice elems spare => uptoBulkAll elems + uptoBulkAll spare + 1
  | .agg parts => uptoBulkAll parts + 1
  | .iface _ d => uptoBulk d + 1
  | .map entries => uptoBulkEntries entries + 1
  | .held _ => 1
def uptoBulkAll {H : Type} : List (DataW H) → Nat
  | [] => 0
  | d :: r => uptoBulk d + uptoBulkAll r
def uptoBulkEntries {H : Type} : List (Lit × DataW H) → Nat
  | [] => 0
  | x :: r => uptoBulkEntry x + uptoBulkEntries r
def uptoBulkEntry {H : Type} : Lit × DataW H → Nat
  | (.string bytes, d) => bytes.length + uptoBulk d + 1
  | (_, d) => uptoBulk d + 1
 end
def uptoSmall : (H : Type) → List (DataW H) → Bool := fun _ ds => decide (uptoBulkAll ds ≤ 1048576)
def OpenSpec.upto (s : _root_.Go.ChangeSpec) : _root_.Go.OpenSpec := { _root_.Go.OpenSpec.ofChange s with cond := some uptoSmall }

/-- 'recyclinglaw21.DemandMakes', WHERE WHAT IT READS IS OF BULK AT MOST 1048576: true; the input reads as it did. -/
def demandMakesUptoRow : OpenClaim := { program := "ytpeidgfaejnhiaa", sum := "bc60e4f00782b50078bf5d4eb8e75a8390513b0248fc6519098e3d5643c37032", func := "recycling/recyclinglaw21.DemandMakes", spec := "demandMakes", unfollowed := true, recurses := true, apart := false, narrowed := true }
def DemandMakesUptoSaid : Prop := demandMakesUptoRow.holds Try.pinned (OpenSpec.upto demandMakesSpec)

/-- 'recyclinglaw21.DemandWhys', WHERE WHAT IT READS IS OF BULK AT MOST 1048576: true; the input reads as it did. -/
def demandWhysUptoRow : OpenClaim := { program := "ytpeidgfaejnhiaa", sum := "bc60e4f00782b50078bf5d4eb8e75a8390513b0248fc6519098e3d5643c37032", func := "recycling/recyclinglaw21.DemandWhys", spec := "demandWhys", unfollowed := true, recurses := true, apart := false, narrowed := true }
def DemandWhysUptoSaid : Prop := demandWhysUptoRow.holds Try.pinned (OpenSpec.upto demandWhysSpec)

/-- 'recyclinglaw21.DemandChecks', WHERE WHAT IT READS IS OF BULK AT MOST 1048576: true; the input reads as it did. -/
def demandChecksUptoRow : OpenClaim := { program := "ytpeidgfaejnhiaa", sum := "bc60e4f00782b50078bf5d4eb8e75a8390513b0248fc6519098e3d5643c37032", func := "recycling/recyclinglaw21.DemandChecks", spec := "demandChecks", unfollowed := true, recurses := true, apart := false, narrowed := true }
def DemandChecksUptoSaid : Prop := demandChecksUptoRow.holds Try.pinned (OpenSpec.upto demandChecksSpec)

/-- 'recyclinglaw21.DemandReasons', WHERE WHAT IT READS IS OF BULK AT MOST 1048576: true; the input reads as it did. -/
def demandReasonsUptoRow : OpenClaim := { program := "ytpeidgfaejnhiaa", sum := "bc60e4f00782b50078bf5d4eb8e75a8390513b0248fc6519098e3d5643c37032", func := "recycling/recyclinglaw21.DemandReasons", spec := "demandReasons", unfollowed := true, recurses := true, apart := false, narrowed := true }
def DemandReasonsUptoSaid : Prop := demandReasonsUptoRow.holds Try.pinned (OpenSpec.upto demandReasonsSpec)

/-- 'recyclinglaw21.DemandValid', WHERE WHAT IT READS IS OF BULK AT MOST 1048576: true; the input reads as it did. -/
def demandValidUptoRow : OpenClaim := { program := "ytpeidgfaejnhiaa", sum := "bc60e4f00782b50078bf5d4eb8e75a8390513b0248fc6519098e3d5643c37032", func := "recycling/recyclinglaw21.DemandValid", spec := "demandValid", unfollowed := true, recurses := true, apart := false, narrowed := true }
def DemandValidUptoSaid : Prop := demandValidUptoRow.holds Try.pinned (OpenSpec.upto demandValidSpec)

/-- 'recyclinglaw21.DemandLower', WHERE WHAT IT READS IS OF BULK AT MOST 1048576: true; the input reads as it did. -/
def demandLowerUptoRow : OpenClaim := { program := "ytpeidgfaejnhiaa", sum := "bc60e4f00782b50078bf5d4eb8e75a8390513b0248fc6519098e3d5643c37032", func := "recycling/recyclinglaw21.DemandLower", spec := "demandLower", unfollowed := true, recurses := true, apart := false, narrowed := true }
def DemandLowerUptoSaid : Prop := demandLowerUptoRow.holds Try.pinned (OpenSpec.upto demandLowerSpec)

end Rows
end Go.Proofs.Ytpeidgfaejnhiaa
