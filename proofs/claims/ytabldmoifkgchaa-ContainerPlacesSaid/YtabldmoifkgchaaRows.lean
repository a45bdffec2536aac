/-
  No cell of these rows narrows 'for every input' (looked for: loops, veiled, ifaces, maps, wideKeys, modest, calm, conditions, laid).
  DERIVED. THE GIVEN ROWS OF THIS SEAT. 8 by the template 'for every input the law returns true; each argument reads behind the call as it read before'; 0 by the template 'total and deterministic' (their statements: YtabldmoifkgchaaTotals.lean).
  GIVEN WITH THE SEED: the statements are not yours to turn. If you find one false, say at which input.
  Laid BY PROGRAM, IN A SANDBOX (cutbox-rows.mjs): the forced cells as the released guide's own fill.sh prints them over the translation b7a131cffb60aece… (all of the seat's roots in one cut). By AI agents, Wed Nov 11 2026. No macro, syntax, notation, axiom, sorry.
-/
import Derived.Test.YtabldmoifkgchaaChecked
import GoSem.Claim
import GoSem.ClaimJoined
import GoSem.ClaimMapViews
import Derived.JoinedTies
import Derived.KernelRfl
namespace Go.Proofs.Ytabldmoifkgchaa
/- THE CELL 'sum', in the pinned program and in every row, IS THE sha256 OF THE DUMP (.gsa) THAT YtabldmoifkgchaaProg.lean LOADS. Nothing in Lean hashes anything: it is a label: what it is worth is what the hold of that sum in a sandbox is worth. -/
noncomputable def Try.pinned : Pinned := { name := "ytabldmoifkgchaa", sum := "b7a131cffb60aece40bb4ac99b2335e23b81874d6a83ea9e0f2212b218def5e5", checked := Try.checked }
namespace Rows
def none {H : Type} : Left H := { results := [], args := [] }

/-- 'recyclinglaw13.ContainerChecks': WHATEVER THE INPUT: true; the input reads as it did. -/
def containerChecksSpec : ChangeSpec := { name := "containerChecks", fn := fun _ => fun
  | [d1, d2, d3] => { results := [.lit (.bool true)], args := [d1, d2, d3] }
  | _ => none }
def containerChecksRow : OpenClaim := { program := "ytabldmoifkgchaa", sum := "b7a131cffb60aece40bb4ac99b2335e23b81874d6a83ea9e0f2212b218def5e5", func := "recycling/recyclinglaw13.ContainerChecks", spec := "containerChecks", unfollowed := true, recurses := true, apart := false }
def ContainerChecksSaid : Prop := containerChecksRow.holds Try.pinned (OpenSpec.ofChange containerChecksSpec)

/-- ITS FALSE NEIGHBOUR: 'it returns false'. Refute it at one input. -/
def containerChecksWrong : ChangeSpec := { name := "containerChecks", fn := fun _ => fun
  | [d1, d2, d3] => { results := [.lit (.bool false)], args := [d1, d2, d3] }
  | _ => none }
def ContainerChecksWrongFalsely : Prop := containerChecksRow.holds Try.pinned (OpenSpec.ofChange containerChecksWrong)

/-- 'recyclinglaw13.ContainerLevels': WHATEVER THE INPUT: true; the input reads as it did. -/
def containerLevelsSpec : ChangeSpec := { name := "containerLevels", fn := fun _ => fun
  | [d1, d2] => { results := [.lit (.bool true)], args := [d1, d2] }
  | _ => none }
def containerLevelsRow : OpenClaim := { program := "ytabldmoifkgchaa", sum := "b7a131cffb60aece40bb4ac99b2335e23b81874d6a83ea9e0f2212b218def5e5", func := "recycling/recyclinglaw13.ContainerLevels", spec := "containerLevels", unfollowed := true, recurses := true, apart := false }
def ContainerLevelsSaid : Prop := containerLevelsRow.holds Try.pinned (OpenSpec.ofChange containerLevelsSpec)

/-- ITS FALSE NEIGHBOUR: 'it returns false'. Refute it at one input. -/
def containerLevelsWrong : ChangeSpec := { name := "containerLevels", fn := fun _ => fun
  | [d1, d2] => { results := [.lit (.bool false)], args := [d1, d2] }
  | _ => none }
def ContainerLevelsWrongFalsely : Prop := containerLevelsRow.holds Try.pinned (OpenSpec.ofChange containerLevelsWrong)

/-- 'recyclinglaw13.ContainerMasses': WHATEVER THE INPUT: true; the input reads as it did. -/
def containerMassesSpec : ChangeSpec := { name := "containerMasses", fn := fun _ => fun
  | [d1, d2] => { results := [.lit (.bool true)], args := [d1, d2] }
  | _ => none }
def containerMassesRow : OpenClaim := { program := "ytabldmoifkgchaa", sum := "b7a131cffb60aece40bb4ac99b2335e23b81874d6a83ea9e0f2212b218def5e5", func := "recycling/recyclinglaw13.ContainerMasses", spec := "containerMasses", unfollowed := true, recurses := true, apart := false }
def ContainerMassesSaid : Prop := containerMassesRow.holds Try.pinned (OpenSpec.ofChange containerMassesSpec)

/-- ITS FALSE NEIGHBOUR: 'it returns false'. Refute it at one input. -/
def containerMassesWrong : ChangeSpec := { name := "containerMasses", fn := fun _ => fun
  | [d1, d2] => { results := [.lit (.bool false)], args := [d1, d2] }
  | _ => none }
def ContainerMassesWrongFalsely : Prop := containerMassesRow.holds Try.pinned (OpenSpec.ofChange containerMassesWrong)

/-- 'recyclinglaw13.ContainerLevel': WHATEVER THE INPUT: true; the input reads as it did. -/
def containerLevelSpec : ChangeSpec := { name := "containerLevel", fn := fun _ => fun
  | [d1, d2] => { results := [.lit (.bool true)], args := [d1, d2] }
  | _ => none }
def containerLevelRow : OpenClaim := { program := "ytabldmoifkgchaa", sum := "b7a131cffb60aece40bb4ac99b2335e23b81874d6a83ea9e0f2212b218def5e5", func := "recycling/recyclinglaw13.ContainerLevel", spec := "containerLevel", unfollowed := true, recurses := true, apart := false }
def ContainerLevelSaid : Prop := containerLevelRow.holds Try.pinned (OpenSpec.ofChange containerLevelSpec)

/-- ITS FALSE NEIGHBOUR: 'it returns false'. Refute it at one input. -/
def containerLevelWrong : ChangeSpec := { name := "containerLevel", fn := fun _ => fun
  | [d1, d2] => { results := [.lit (.bool false)], args := [d1, d2] }
  | _ => none }
def ContainerLevelWrongFalsely : Prop := containerLevelRow.holds Try.pinned (OpenSpec.ofChange containerLevelWrong)

/-- 'recyclinglaw13.ContainerGrows': WHATEVER THE INPUT: true; the input reads as it did. -/
def containerGrowsSpec : ChangeSpec := { name := "containerGrows", fn := fun _ => fun
  | [d1, d2, d3] => { results := [.lit (.bool true)], args := [d1, d2, d3] }
  | _ => none }
def containerGrowsRow : OpenClaim := { program := "ytabldmoifkgchaa", sum := "b7a131cffb60aece40bb4ac99b2335e23b81874d6a83ea9e0f2212b218def5e5", func := "recycling/recyclinglaw13.ContainerGrows", spec := "containerGrows", unfollowed := true, recurses := true, apart := false }
def ContainerGrowsSaid : Prop := containerGrowsRow.holds Try.pinned (OpenSpec.ofChange containerGrowsSpec)

/-- ITS FALSE NEIGHBOUR: 'it returns false'. Refute it at one input. -/
def containerGrowsWrong : ChangeSpec := { name := "containerGrows", fn := fun _ => fun
  | [d1, d2, d3] => { results := [.lit (.bool false)], args := [d1, d2, d3] }
  | _ => none }
def ContainerGrowsWrongFalsely : Prop := containerGrowsRow.holds Try.pinned (OpenSpec.ofChange containerGrowsWrong)

/-- 'recyclinglaw13.ContainerDistinct': WHATEVER THE INPUT: true; the input reads as it did. -/
def containerDistinctSpec : ChangeSpec := { name := "containerDistinct", fn := fun _ => fun
  | [d1, d2, d3] => { results := [.lit (.bool true)], args := [d1, d2, d3] }
  | _ => none }
def containerDistinctRow : OpenClaim := { program := "ytabldmoifkgchaa", sum := "b7a131cffb60aece40bb4ac99b2335e23b81874d6a83ea9e0f2212b218def5e5", func := "recycling/recyclinglaw13.ContainerDistinct", spec := "containerDistinct", unfollowed := true, recurses := true, apart := false }
def ContainerDistinctSaid : Prop := containerDistinctRow.holds Try.pinned (OpenSpec.ofChange containerDistinctSpec)

/-- ITS FALSE NEIGHBOUR: 'it returns false'. Refute it at one input. -/
def containerDistinctWrong : ChangeSpec := { name := "containerDistinct", fn := fun _ => fun
  | [d1, d2, d3] => { results := [.lit (.bool false)], args := [d1, d2, d3] }
  | _ => none }
def ContainerDistinctWrongFalsely : Prop := containerDistinctRow.holds Try.pinned (OpenSpec.ofChange containerDistinctWrong)

/-- 'recyclinglaw13.ContainerFinds': WHATEVER THE INPUT: true; the input reads as it did. -/
def containerFindsSpec : ChangeSpec := { name := "containerFinds", fn := fun _ => fun
  | [d1, d2, d3] => { results := [.lit (.bool true)], args := [d1, d2, d3] }
  | _ => none }
def containerFindsRow : OpenClaim := { program := "ytabldmoifkgchaa", sum := "b7a131cffb60aece40bb4ac99b2335e23b81874d6a83ea9e0f2212b218def5e5", func := "recycling/recyclinglaw13.ContainerFinds", spec := "containerFinds", unfollowed := true, recurses := true, apart := false }
def ContainerFindsSaid : Prop := containerFindsRow.holds Try.pinned (OpenSpec.ofChange containerFindsSpec)

/-- ITS FALSE NEIGHBOUR: 'it returns false'. Refute it at one input. -/
def containerFindsWrong : ChangeSpec := { name := "containerFinds", fn := fun _ => fun
  | [d1, d2, d3] => { results := [.lit (.bool false)], args := [d1, d2, d3] }
  | _ => none }
def ContainerFindsWrongFalsely : Prop := containerFindsRow.holds Try.pinned (OpenSpec.ofChange containerFindsWrong)

/-- 'recyclinglaw13.ContainerPlaces': WHATEVER THE INPUT: true; the input reads as it did. -/
def containerPlacesSpec : ChangeSpec := { name := "containerPlaces", fn := fun _ => fun
  | [d1, d2, d3] => { results := [.lit (.bool true)], args := [d1, d2, d3] }
  | _ => none }
def containerPlacesRow : OpenClaim := { program := "ytabldmoifkgchaa", sum := "b7a131cffb60aece40bb4ac99b2335e23b81874d6a83ea9e0f2212b218def5e5", func := "recycling/recyclinglaw13.ContainerPlaces", spec := "containerPlaces", unfollowed := true, recurses := true, apart := false }
def ContainerPlacesSaid : Prop := containerPlacesRow.holds Try.pinned (OpenSpec.ofChange containerPlacesSpec)

/-- ITS FALSE NEIGHBOUR: 'it returns false'. Refute it at one input. -/
def containerPlacesWrong : ChangeSpec := { name := "containerPlaces", fn := fun _ => fun
  | [d1, d2, d3] => { results := [.lit (.bool false)], args := [d1, d2, d3] }
  | _ => none }
def ContainerPlacesWrongFalsely : Prop := containerPlacesRow.holds Try.pinned (OpenSpec.ofChange containerPlacesWrong)

/- THE SECOND FORM. 'bulk': how many values and letters a reading holds, each counted each time it is reached (what is shared counts as often as it is met; a slice's spare places count too). A statement '..UptoSaid' is the law's where the arguments, and the package variables that the reading takes, are together of bulk at most 1048576: NARROWER than '..Said'. Prove '..Said' where nothing that the law and all that it calls make is longer than what came in: it says more and counts as full. Else prove '..UptoSaid'. A law counts once. -/
mutual
def uptoBulk {H : Type} : DataW H → Nat
  | .lit (.string bytes) => bytes.length + 1
  | .lit _ => 1
  | .nil => 1
  | .ptr d => uptoBulk d + 1
  | .slice elems spare => uptoBulkAll elems + uptoBulkAll spare + 1
  | .agg parts => uptoBulkAll parts + 1
  | .iface _ d => uptoBulk d + 1
  | .map entries => uptoBulkEntries entries + 1
  | .held _ => 1
def uptoBulkAll {H : Type} : List (DataW H) → Nat
  | [] => 0
  | d :: r => uptoBulk d + uptoBulkAll r
def uptoBulkEntries {H : Type} : List (Lit × DataW H) → Nat
  | [] => 0
  | x :: r => uptoBulkEntry x + uptoBulkEntries r
def uptoBulkEntry {H : Type} : Lit × DataW H → Nat
  | (.string bytes, d) => bytes.length + uptoBulk d + 1
  | (_, d) => uptoBulk d + 1
 end
def uptoSmall : (H : Type) → List (DataW H) → Bool := fun _ ds => decide (uptoBulkAll ds ≤ 1048576)
def OpenSpec.upto (s : _root_.Go.ChangeSpec) : _root_.Go.OpenSpec := { _root_.Go.OpenSpec.ofChange s with cond := some uptoSmall }

/-- 'recyclinglaw13.ContainerChecks', WHERE WHAT IT READS IS OF BULK AT MOST 1048576: true; the input reads as it did. -/
def containerChecksUptoRow : OpenClaim := { program := "ytabldmoifkgchaa", sum := "b7a131cffb60aece40bb4ac99b2335e23b81874d6a83ea9e0f2212b218def5e5", func := "recycling/recyclinglaw13.ContainerChecks", spec := "containerChecks", unfollowed := true, recurses := true, apart := false, narrowed := true }
def ContainerChecksUptoSaid : Prop := containerChecksUptoRow.holds Try.pinned (OpenSpec.upto containerChecksSpec)

/-- 'recyclinglaw13.ContainerLevels', WHERE WHAT IT READS IS OF BULK AT MOST 1048576: true; the input reads as it did. -/
def containerLevelsUptoRow : OpenClaim := { program := "ytabldmoifkgchaa", sum := "b7a131cffb60aece40bb4ac99b2335e23b81874d6a83ea9e0f2212b218def5e5", func := "recycling/recyclinglaw13.ContainerLevels", spec := "containerLevels", unfollowed := true, recurses := true, apart := false, narrowed := true }
def ContainerLevelsUptoSaid : Prop := containerLevelsUptoRow.holds Try.pinned (OpenSpec.upto containerLevelsSpec)

/-- 'recyclinglaw13.ContainerMasses', WHERE WHAT IT READS IS OF BULK AT MOST 1048576: true; the input reads as it did. -/
def containerMassesUptoRow : OpenClaim := { program := "ytabldmoifkgchaa", sum := "b7a131cffb60aece40bb4ac99b2335e23b81874d6a83ea9e0f2212b218def5e5", func := "recycling/recyclinglaw13.ContainerMasses", spec := "containerMasses", unfollowed := true, recurses := true, apart := false, narrowed := true }
def ContainerMassesUptoSaid : Prop := containerMassesUptoRow.holds Try.pinned (OpenSpec.upto containerMassesSpec)

/-- 'recyclinglaw13.ContainerLevel', WHERE WHAT IT READS IS OF BULK AT MOST 1048576: true; the input reads as it did. -/
def containerLevelUptoRow : OpenClaim := { program := "ytabldmoifkgchaa", sum := "b7a131cffb60aece40bb4ac99b2335e23b81874d6a83ea9e0f2212b218def5e5", func := "recycling/recyclinglaw13.ContainerLevel", spec := "containerLevel", unfollowed := true, recurses := true, apart := false, narrowed := true }
def ContainerLevelUptoSaid : Prop := containerLevelUptoRow.holds Try.pinned (OpenSpec.upto containerLevelSpec)

/-- 'recyclinglaw13.ContainerGrows', WHERE WHAT IT READS IS OF BULK AT MOST 1048576: true; the input reads as it did. -/
def containerGrowsUptoRow : OpenClaim := { program := "ytabldmoifkgchaa", sum := "b7a131cffb60aece40bb4ac99b2335e23b81874d6a83ea9e0f2212b218def5e5", func := "recycling/recyclinglaw13.ContainerGrows", spec := "containerGrows", unfollowed := true, recurses := true, apart := false, narrowed := true }
def ContainerGrowsUptoSaid : Prop := containerGrowsUptoRow.holds Try.pinned (OpenSpec.upto containerGrowsSpec)

/-- 'recyclinglaw13.ContainerDistinct', WHERE WHAT IT READS IS OF BULK AT MOST 1048576: true; the input reads as it did. -/
def containerDistinctUptoRow : OpenClaim := { program := "ytabldmoifkgchaa", sum := "b7a131cffb60aece40bb4ac99b2335e23b81874d6a83ea9e0f2212b218def5e5", func := "recycling/recyclinglaw13.ContainerDistinct", spec := "containerDistinct", unfollowed := true, recurses := true, apart := false, narrowed := true }
def ContainerDistinctUptoSaid : Prop := containerDistinctUptoRow.holds Try.pinned (OpenSpec.upto containerDistinctSpec)

/-- 'recyclinglaw13.ContainerFinds', WHERE WHAT IT READS IS OF BULK AT MOST 1048576: true; the input reads as it did. -/
def containerFindsUptoRow : OpenClaim := { program := "ytabldmoifkgchaa", sum := "b7a131cffb60aece40bb4ac99b2335e23b81874d6a83ea9e0f2212b218def5e5", func := "recycling/recyclinglaw13.ContainerFinds", spec := "containerFinds", unfollowed := true, recurses := true, apart := false, narrowed := true }
def ContainerFindsUptoSaid : Prop := containerFindsUptoRow.holds Try.pinned (OpenSpec.upto containerFindsSpec)

/-- 'recyclinglaw13.ContainerPlaces', WHERE WHAT IT READS IS OF BULK AT MOST 1048576: true; the input reads as it did. -/
def containerPlacesUptoRow : OpenClaim := { program := "ytabldmoifkgchaa", sum := "b7a131cffb60aece40bb4ac99b2335e23b81874d6a83ea9e0f2212b218def5e5", func := "recycling/recyclinglaw13.ContainerPlaces", spec := "containerPlaces", unfollowed := true, recurses := true, apart := false, narrowed := true }
def ContainerPlacesUptoSaid : Prop := containerPlacesUptoRow.holds Try.pinned (OpenSpec.upto containerPlacesSpec)

end Rows
end Go.Proofs.Ytabldmoifkgchaa
