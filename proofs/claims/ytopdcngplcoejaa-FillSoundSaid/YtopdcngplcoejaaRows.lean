/-
  No cell of these rows narrows 'for every input' (looked for: loops, veiled, ifaces, maps, wideKeys, modest, calm, conditions, laid).
  DERIVED. THE GIVEN ROWS OF THIS SEAT. 8 by the template 'for every input the law returns true; each argument reads behind the call as it read before'; 0 by the template 'total and deterministic' (their statements: YtopdcngplcoejaaTotals.lean).
  GIVEN WITH THE SEED: the statements are not yours to turn. If you find one false, say at which input.
  Laid BY PROGRAM, IN A SANDBOX (cutbox-rows.mjs): the forced cells as the released guide's own fill.sh prints them over the translation f5755e0f79de5e85… (all of the seat's roots in one cut). By AI agents, Wed Nov 11 2026. No macro, syntax, notation, axiom, sorry.
-/
import Derived.Test.YtopdcngplcoejaaChecked
import GoSem.Claim
import GoSem.ClaimJoined
import GoSem.ClaimMapViews
import Derived.JoinedTies
import Derived.KernelRfl
namespace Go.Proofs.Ytopdcngplcoejaa
/- THE CELL 'sum', in the pinned program and in every row, IS THE sha256 OF THE DUMP (.gsa) THAT YtopdcngplcoejaaProg.lean LOADS. Nothing in Lean hashes anything: it is a label: what it is worth is what the hold of that sum in a sandbox is worth. -/
noncomputable def Try.pinned : Pinned := { name := "ytopdcngplcoejaa", sum := "f5755e0f79de5e853ced32d48882327c150ab77b522a4a217a39dc29cfd1e25a", checked := Try.checked }
namespace Rows
def none {H : Type} : Left H := { results := [], args := [] }

/-- 'recyclinglaw16.FillLevels': WHATEVER THE INPUT: true; the input reads as it did. -/
def fillLevelsSpec : ChangeSpec := { name := "fillLevels", fn := fun _ => fun
  | [d1, d2, d3] => { results := [.lit (.bool true)], args := [d1, d2, d3] }
  | _ => none }
def fillLevelsRow : OpenClaim := { program := "ytopdcngplcoejaa", sum := "f5755e0f79de5e853ced32d48882327c150ab77b522a4a217a39dc29cfd1e25a", func := "recycling/recyclinglaw16.FillLevels", spec := "fillLevels", unfollowed := true, recurses := true, apart := false }
def FillLevelsSaid : Prop := fillLevelsRow.holds Try.pinned (OpenSpec.ofChange fillLevelsSpec)

/-- ITS FALSE NEIGHBOUR: 'it returns false'. Refute it at one input. -/
def fillLevelsWrong : ChangeSpec := { name := "fillLevels", fn := fun _ => fun
  | [d1, d2, d3] => { results := [.lit (.bool false)], args := [d1, d2, d3] }
  | _ => none }
def FillLevelsWrongFalsely : Prop := fillLevelsRow.holds Try.pinned (OpenSpec.ofChange fillLevelsWrong)

/-- 'recyclinglaw16.FillMasses': WHATEVER THE INPUT: true; the input reads as it did. -/
def fillMassesSpec : ChangeSpec := { name := "fillMasses", fn := fun _ => fun
  | [d1, d2] => { results := [.lit (.bool true)], args := [d1, d2] }
  | _ => none }
def fillMassesRow : OpenClaim := { program := "ytopdcngplcoejaa", sum := "f5755e0f79de5e853ced32d48882327c150ab77b522a4a217a39dc29cfd1e25a", func := "recycling/recyclinglaw16.FillMasses", spec := "fillMasses", unfollowed := true, recurses := true, apart := false }
def FillMassesSaid : Prop := fillMassesRow.holds Try.pinned (OpenSpec.ofChange fillMassesSpec)

/-- ITS FALSE NEIGHBOUR: 'it returns false'. Refute it at one input. -/
def fillMassesWrong : ChangeSpec := { name := "fillMasses", fn := fun _ => fun
  | [d1, d2] => { results := [.lit (.bool false)], args := [d1, d2] }
  | _ => none }
def FillMassesWrongFalsely : Prop := fillMassesRow.holds Try.pinned (OpenSpec.ofChange fillMassesWrong)

/-- 'recyclinglaw16.FillLaters': WHATEVER THE INPUT: true; the input reads as it did. -/
def fillLatersSpec : ChangeSpec := { name := "fillLaters", fn := fun _ => fun
  | [d1, d2, d3, d4] => { results := [.lit (.bool true)], args := [d1, d2, d3, d4] }
  | _ => none }
def fillLatersRow : OpenClaim := { program := "ytopdcngplcoejaa", sum := "f5755e0f79de5e853ced32d48882327c150ab77b522a4a217a39dc29cfd1e25a", func := "recycling/recyclinglaw16.FillLaters", spec := "fillLaters", unfollowed := true, recurses := true, apart := false }
def FillLatersSaid : Prop := fillLatersRow.holds Try.pinned (OpenSpec.ofChange fillLatersSpec)

/-- ITS FALSE NEIGHBOUR: 'it returns false'. Refute it at one input. -/
def fillLatersWrong : ChangeSpec := { name := "fillLaters", fn := fun _ => fun
  | [d1, d2, d3, d4] => { results := [.lit (.bool false)], args := [d1, d2, d3, d4] }
  | _ => none }
def FillLatersWrongFalsely : Prop := fillLatersRow.holds Try.pinned (OpenSpec.ofChange fillLatersWrong)

/-- 'recyclinglaw16.FillFulls': WHATEVER THE INPUT: true; the input reads as it did. -/
def fillFullsSpec : ChangeSpec := { name := "fillFulls", fn := fun _ => fun
  | [d1, d2, d3] => { results := [.lit (.bool true)], args := [d1, d2, d3] }
  | _ => none }
def fillFullsRow : OpenClaim := { program := "ytopdcngplcoejaa", sum := "f5755e0f79de5e853ced32d48882327c150ab77b522a4a217a39dc29cfd1e25a", func := "recycling/recyclinglaw16.FillFulls", spec := "fillFulls", unfollowed := true, recurses := true, apart := false }
def FillFullsSaid : Prop := fillFullsRow.holds Try.pinned (OpenSpec.ofChange fillFullsSpec)

/-- ITS FALSE NEIGHBOUR: 'it returns false'. Refute it at one input. -/
def fillFullsWrong : ChangeSpec := { name := "fillFulls", fn := fun _ => fun
  | [d1, d2, d3] => { results := [.lit (.bool false)], args := [d1, d2, d3] }
  | _ => none }
def FillFullsWrongFalsely : Prop := fillFullsRow.holds Try.pinned (OpenSpec.ofChange fillFullsWrong)

/-- 'recyclinglaw16.FillWider': WHATEVER THE INPUT: true; the input reads as it did. -/
def fillWiderSpec : ChangeSpec := { name := "fillWider", fn := fun _ => fun
  | [d1, d2, d3, d4, d5] => { results := [.lit (.bool true)], args := [d1, d2, d3, d4, d5] }
  | _ => none }
def fillWiderRow : OpenClaim := { program := "ytopdcngplcoejaa", sum := "f5755e0f79de5e853ced32d48882327c150ab77b522a4a217a39dc29cfd1e25a", func := "recycling/recyclinglaw16.FillWider", spec := "fillWider", unfollowed := true, recurses := true, apart := false }
def FillWiderSaid : Prop := fillWiderRow.holds Try.pinned (OpenSpec.ofChange fillWiderSpec)

/-- ITS FALSE NEIGHBOUR: 'it returns false'. Refute it at one input. -/
def fillWiderWrong : ChangeSpec := { name := "fillWider", fn := fun _ => fun
  | [d1, d2, d3, d4, d5] => { results := [.lit (.bool false)], args := [d1, d2, d3, d4, d5] }
  | _ => none }
def FillWiderWrongFalsely : Prop := fillWiderRow.holds Try.pinned (OpenSpec.ofChange fillWiderWrong)

/-- 'recyclinglaw16.FillOver': WHATEVER THE INPUT: true; the input reads as it did. -/
def fillOverSpec : ChangeSpec := { name := "fillOver", fn := fun _ => fun
  | [d1, d2, d3] => { results := [.lit (.bool true)], args := [d1, d2, d3] }
  | _ => none }
def fillOverRow : OpenClaim := { program := "ytopdcngplcoejaa", sum := "f5755e0f79de5e853ced32d48882327c150ab77b522a4a217a39dc29cfd1e25a", func := "recycling/recyclinglaw16.FillOver", spec := "fillOver", unfollowed := true, recurses := true, apart := false }
def FillOverSaid : Prop := fillOverRow.holds Try.pinned (OpenSpec.ofChange fillOverSpec)

/-- ITS FALSE NEIGHBOUR: 'it returns false'. Refute it at one input. -/
def fillOverWrong : ChangeSpec := { name := "fillOver", fn := fun _ => fun
  | [d1, d2, d3] => { results := [.lit (.bool false)], args := [d1, d2, d3] }
  | _ => none }
def FillOverWrongFalsely : Prop := fillOverRow.holds Try.pinned (OpenSpec.ofChange fillOverWrong)

/-- 'recyclinglaw16.FillSound': WHATEVER THE INPUT: true; the input reads as it did. -/
def fillSoundSpec : ChangeSpec := { name := "fillSound", fn := fun _ => fun
  | [d1, d2, d3, d4, d5] => { results := [.lit (.bool true)], args := [d1, d2, d3, d4, d5] }
  | _ => none }
def fillSoundRow : OpenClaim := { program := "ytopdcngplcoejaa", sum := "f5755e0f79de5e853ced32d48882327c150ab77b522a4a217a39dc29cfd1e25a", func := "recycling/recyclinglaw16.FillSound", spec := "fillSound", unfollowed := true, recurses := true, apart := false }
def FillSoundSaid : Prop := fillSoundRow.holds Try.pinned (OpenSpec.ofChange fillSoundSpec)

/-- ITS FALSE NEIGHBOUR: 'it returns false'. Refute it at one input. -/
def fillSoundWrong : ChangeSpec := { name := "fillSound", fn := fun _ => fun
  | [d1, d2, d3, d4, d5] => { results := [.lit (.bool false)], args := [d1, d2, d3, d4, d5] }
  | _ => none }
def FillSoundWrongFalsely : Prop := fillSoundRow.holds Try.pinned (OpenSpec.ofChange fillSoundWrong)

/-- 'recyclinglaw16.FillBoths': WHATEVER THE INPUT: true; the input reads as it did. -/
def fillBothsSpec : ChangeSpec := { name := "fillBoths", fn := fun _ => fun
  | [d1, d2] => { results := [.lit (.bool true)], args := [d1, d2] }
  | _ => none }
def fillBothsRow : OpenClaim := { program := "ytopdcngplcoejaa", sum := "f5755e0f79de5e853ced32d48882327c150ab77b522a4a217a39dc29cfd1e25a", func := "recycling/recyclinglaw16.FillBoths", spec := "fillBoths", unfollowed := true, recurses := true, apart := false }
def FillBothsSaid : Prop := fillBothsRow.holds Try.pinned (OpenSpec.ofChange fillBothsSpec)

/-- ITS FALSE NEIGHBOUR: 'it returns false'. Refute it at one input. -/
def fillBothsWrong : ChangeSpec := { name := "fillBoths", fn := fun _ => fun
  | [d1, d2] => { results := [.lit (.bool false)], args := [d1, d2] }
  | _ => none }
def FillBothsWrongFalsely : Prop := fillBothsRow.holds Try.pinned (OpenSpec.ofChange fillBothsWrong)

/- THE SECOND FORM. 'bulk': how many values and letters a reading holds, each counted each time it is reached (what is shared counts as often as it is met; a slice's spare places count too). A statement '..UptoSaid' is the law's where the arguments, and the package variables that the reading takes, are together of bulk at most 1048576: NARROWER than '..Said'. Prove '..Said' where nothing that the law and all that it calls make is longer than what came in: it says more and counts as full. Else prove '..UptoSaid'. A law counts once. -/
mutual
def uptoBulk {H : Type} : DataW H → Nat
  | .lit (.string bytes) => bytes.length + 1
  | .lit _ => 1
  | .nil => 1
  | .ptr d => uptoBulk d + 1
  | .slice elems spare => uptoBulkAll elems + uptoBulkAll spare + 1
  | .agg parts => uptoBulkAll parts + 1
  | .iface _ d => uptoBulk d + 1
  | .map entries => uptoBulkEntries entries + 1
  | .held _ => 1
def uptoBulkAll {H : Type} : List (DataW H) → Nat
  | [] => 0
  | d :: r => uptoBulk d + uptoBulkAll r
def uptoBulkEntries {H : Type} : List (Lit × DataW H) → Nat
  | [] => 0
  | x :: r => uptoBulkEntry x + uptoBulkEntries r
def uptoBulkEntry {H : Type} : Lit × DataW H → Nat
  | (.string bytes, d) => bytes.length + uptoBulk d + 1
  | (_, d) => uptoBulk d + 1
 end
def uptoSmall : (H : Type) → List (DataW H) → Bool := fun _ ds => decide (uptoBulkAll ds ≤ 1048576)
def OpenSpec.upto (s : _root_.Go.ChangeSpec) : _root_.Go.OpenSpec := { _root_.Go.OpenSpec.ofChange s with cond := some uptoSmall }

/-- 'recyclinglaw16.FillLevels', WHERE WHAT IT READS IS OF BULK AT MOST 1048576: true; the input reads as it did. -/
def fillLevelsUptoRow : OpenClaim := { program := "ytopdcngplcoejaa", sum := "f5755e0f79de5e853ced32d48882327c150ab77b522a4a217a39dc29cfd1e25a", func := "recycling/recyclinglaw16.FillLevels", spec := "fillLevels", unfollowed := true, recurses := true, apart := false, narrowed := true }
def FillLevelsUptoSaid : Prop := fillLevelsUptoRow.holds Try.pinned (OpenSpec.upto fillLevelsSpec)

/-- 'recyclinglaw16.FillMasses', WHERE WHAT IT READS IS OF BULK AT MOST 1048576: true; the input reads as it did. -/
def fillMassesUptoRow : OpenClaim := { program := "ytopdcngplcoejaa", sum := "f5755e0f79de5e853ced32d48882327c150ab77b522a4a217a39dc29cfd1e25a", func := "recycling/recyclinglaw16.FillMasses", spec := "fillMasses", unfollowed := true, recurses := true, apart := false, narrowed := true }
def FillMassesUptoSaid : Prop := fillMassesUptoRow.holds Try.pinned (OpenSpec.upto fillMassesSpec)

/-- 'recyclinglaw16.FillLaters', WHERE WHAT IT READS IS OF BULK AT MOST 1048576: true; the input reads as it did. -/
def fillLatersUptoRow : OpenClaim := { program := "ytopdcngplcoejaa", sum := "f5755e0f79de5e853ced32d48882327c150ab77b522a4a217a39dc29cfd1e25a", func := "recycling/recyclinglaw16.FillLaters", spec := "fillLaters", unfollowed := true, recurses := true, apart := false, narrowed := true }
def FillLatersUptoSaid : Prop := fillLatersUptoRow.holds Try.pinned (OpenSpec.upto fillLatersSpec)

/-- 'recyclinglaw16.FillFulls', WHERE WHAT IT READS IS OF BULK AT MOST 1048576: true; the input reads as it did. -/
def fillFullsUptoRow : OpenClaim := { program := "ytopdcngplcoejaa", sum := "f5755e0f79de5e853ced32d48882327c150ab77b522a4a217a39dc29cfd1e25a", func := "recycling/recyclinglaw16.FillFulls", spec := "fillFulls", unfollowed := true, recurses := true, apart := false, narrowed := true }
def FillFullsUptoSaid : Prop := fillFullsUptoRow.holds Try.pinned (OpenSpec.upto fillFullsSpec)

/-- 'recyclinglaw16.FillWider', WHERE WHAT IT READS IS OF BULK AT MOST 1048576: true; the input reads as it did. -/
def fillWiderUptoRow : OpenClaim := { program := "ytopdcngplcoejaa", sum := "f5755e0f79de5e853ced32d48882327c150ab77b522a4a217a39dc29cfd1e25a", func := "recycling/recyclinglaw16.FillWider", spec := "fillWider", unfollowed := true, recurses := true, apart := false, narrowed := true }
def FillWiderUptoSaid : Prop := fillWiderUptoRow.holds Try.pinned (OpenSpec.upto fillWiderSpec)

/-- 'recyclinglaw16.FillOver', WHERE WHAT IT READS IS OF BULK AT MOST 1048576: true; the input reads as it did. -/
def fillOverUptoRow : OpenClaim := { program := "ytopdcngplcoejaa", sum := "f5755e0f79de5e853ced32d48882327c150ab77b522a4a217a39dc29cfd1e25a", func := "recycling/recyclinglaw16.FillOver", spec := "fillOver", unfollowed := true, recurses := true, apart := false, narrowed := true }
def FillOverUptoSaid : Prop := fillOverUptoRow.holds Try.pinned (OpenSpec.upto fillOverSpec)

/-- 'recyclinglaw16.FillSound', WHERE WHAT IT READS IS OF BULK AT MOST 1048576: true; the input reads as it did. -/
def fillSoundUptoRow : OpenClaim := { program := "ytopdcngplcoejaa", sum := "f5755e0f79de5e853ced32d48882327c150ab77b522a4a217a39dc29cfd1e25a", func := "recycling/recyclinglaw16.FillSound", spec := "fillSound", unfollowed := true, recurses := true, apart := false, narrowed := true }
def FillSoundUptoSaid : Prop := fillSoundUptoRow.holds Try.pinned (OpenSpec.upto fillSoundSpec)

/-- 'recyclinglaw16.FillBoths', WHERE WHAT IT READS IS OF BULK AT MOST 1048576: true; the input reads as it did. -/
def fillBothsUptoRow : OpenClaim := { program := "ytopdcngplcoejaa", sum := "f5755e0f79de5e853ced32d48882327c150ab77b522a4a217a39dc29cfd1e25a", func := "recycling/recyclinglaw16.FillBoths", spec := "fillBoths", unfollowed := true, recurses := true, apart := false, narrowed := true }
def FillBothsUptoSaid : Prop := fillBothsUptoRow.holds Try.pinned (OpenSpec.upto fillBothsSpec)

end Rows
end Go.Proofs.Ytopdcngplcoejaa
