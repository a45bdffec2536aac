/-
  No cell of these rows narrows 'for every input' (looked for: loops, veiled, ifaces, maps, wideKeys, modest, calm, conditions, laid).
  DERIVED. THE GIVEN ROWS OF THIS SEAT. 7 by the template 'for every input the law returns true; each argument reads behind the call as it read before'; 0 by the template 'total and deterministic' (their statements: YthalbjnjlgnndaaTotals.lean).
  GIVEN WITH THE SEED: the statements are not yours to turn. If you find one false, say at which input.
  Laid BY PROGRAM, IN A SANDBOX (cutbox-rows.mjs): the forced cells as the released guide's own fill.sh prints them over the translation ba060e6f2546953d… (all of the seat's roots in one cut). By AI agents, Wed Nov 11 2026. No macro, syntax, notation, axiom, sorry.
-/
import Derived.Test.YthalbjnjlgnndaaChecked
import GoSem.Claim
import GoSem.ClaimJoined
import GoSem.ClaimMapViews
import Derived.JoinedTies
import Derived.KernelRfl
namespace Go.Proofs.Ythalbjnjlgnndaa
/- THE CELL 'sum', in the pinned program and in every row, IS THE sha256 OF THE DUMP (.gsa) THAT YthalbjnjlgnndaaProg.lean LOADS. Nothing in Lean hashes anything: it is a label: what it is worth is what the hold of that sum in a sandbox is worth. -/
noncomputable def Try.pinned : Pinned := { name := "ythalbjnjlgnndaa", sum := "ba060e6f2546953db8da2278321f1afe909ac9c6cd56641d0205850ab08d6631", checked := Try.checked }
namespace Rows
def none {H : Type} : Left H := { results := [], args := [] }

/-- 'recyclinglaw20.VehicleChecks': WHATEVER THE INPUT: true; the input reads as it did. -/
def vehicleChecksSpec : ChangeSpec := { name := "vehicleChecks", fn := fun _ => fun
  | [d1, d2, d3] => { results := [.lit (.bool true)], args := [d1, d2, d3] }
  | _ => none }
def vehicleChecksRow : OpenClaim := { program := "ythalbjnjlgnndaa", sum := "ba060e6f2546953db8da2278321f1afe909ac9c6cd56641d0205850ab08d6631", func := "recycling/recyclinglaw20.VehicleChecks", spec := "vehicleChecks", apart := false }
def VehicleChecksSaid : Prop := vehicleChecksRow.holds Try.pinned (OpenSpec.ofChange vehicleChecksSpec)

/-- ITS FALSE NEIGHBOUR: 'it returns false'. Refute it at one input. -/
def vehicleChecksWrong : ChangeSpec := { name := "vehicleChecks", fn := fun _ => fun
  | [d1, d2, d3] => { results := [.lit (.bool false)], args := [d1, d2, d3] }
  | _ => none }
def VehicleChecksWrongFalsely : Prop := vehicleChecksRow.holds Try.pinned (OpenSpec.ofChange vehicleChecksWrong)

/-- 'recyclinglaw20.VehicleCarries': WHATEVER THE INPUT: true; the input reads as it did. -/
def vehicleCarriesSpec : ChangeSpec := { name := "vehicleCarries", fn := fun _ => fun
  | [d1, d2] => { results := [.lit (.bool true)], args := [d1, d2] }
  | _ => none }
def vehicleCarriesRow : OpenClaim := { program := "ythalbjnjlgnndaa", sum := "ba060e6f2546953db8da2278321f1afe909ac9c6cd56641d0205850ab08d6631", func := "recycling/recyclinglaw20.VehicleCarries", spec := "vehicleCarries", apart := false }
def VehicleCarriesSaid : Prop := vehicleCarriesRow.holds Try.pinned (OpenSpec.ofChange vehicleCarriesSpec)

/-- ITS FALSE NEIGHBOUR: 'it returns false'. Refute it at one input. -/
def vehicleCarriesWrong : ChangeSpec := { name := "vehicleCarries", fn := fun _ => fun
  | [d1, d2] => { results := [.lit (.bool false)], args := [d1, d2] }
  | _ => none }
def VehicleCarriesWrongFalsely : Prop := vehicleCarriesRow.holds Try.pinned (OpenSpec.ofChange vehicleCarriesWrong)

/-- 'recyclinglaw20.VehicleFits': WHATEVER THE INPUT: true; the input reads as it did. -/
def vehicleFitsSpec : ChangeSpec := { name := "vehicleFits", fn := fun _ => fun
  | [d1, d2] => { results := [.lit (.bool true)], args := [d1, d2] }
  | _ => none }
def vehicleFitsRow : OpenClaim := { program := "ythalbjnjlgnndaa", sum := "ba060e6f2546953db8da2278321f1afe909ac9c6cd56641d0205850ab08d6631", func := "recycling/recyclinglaw20.VehicleFits", spec := "vehicleFits", apart := false }
def VehicleFitsSaid : Prop := vehicleFitsRow.holds Try.pinned (OpenSpec.ofChange vehicleFitsSpec)

/-- ITS FALSE NEIGHBOUR: 'it returns false'. Refute it at one input. -/
def vehicleFitsWrong : ChangeSpec := { name := "vehicleFits", fn := fun _ => fun
  | [d1, d2] => { results := [.lit (.bool false)], args := [d1, d2] }
  | _ => none }
def VehicleFitsWrongFalsely : Prop := vehicleFitsRow.holds Try.pinned (OpenSpec.ofChange vehicleFitsWrong)

/-- 'recyclinglaw20.VehicleParts': WHATEVER THE INPUT: true; the input reads as it did. -/
def vehiclePartsSpec : ChangeSpec := { name := "vehicleParts", fn := fun _ => fun
  | [d1, d2, d3] => { results := [.lit (.bool true)], args := [d1, d2, d3] }
  | _ => none }
def vehiclePartsRow : OpenClaim := { program := "ythalbjnjlgnndaa", sum := "ba060e6f2546953db8da2278321f1afe909ac9c6cd56641d0205850ab08d6631", func := "recycling/recyclinglaw20.VehicleParts", spec := "vehicleParts", apart := false }
def VehiclePartsSaid : Prop := vehiclePartsRow.holds Try.pinned (OpenSpec.ofChange vehiclePartsSpec)

/-- ITS FALSE NEIGHBOUR: 'it returns false'. Refute it at one input. -/
def vehiclePartsWrong : ChangeSpec := { name := "vehicleParts", fn := fun _ => fun
  | [d1, d2, d3] => { results := [.lit (.bool false)], args := [d1, d2, d3] }
  | _ => none }
def VehiclePartsWrongFalsely : Prop := vehiclePartsRow.holds Try.pinned (OpenSpec.ofChange vehiclePartsWrong)

/-- 'recyclinglaw20.VehicleKinds': WHATEVER THE INPUT: true; the input reads as it did. -/
def vehicleKindsSpec : ChangeSpec := { name := "vehicleKinds", fn := fun _ => fun
  | [d1, d2, d3, d4] => { results := [.lit (.bool true)], args := [d1, d2, d3, d4] }
  | _ => none }
def vehicleKindsRow : OpenClaim := { program := "ythalbjnjlgnndaa", sum := "ba060e6f2546953db8da2278321f1afe909ac9c6cd56641d0205850ab08d6631", func := "recycling/recyclinglaw20.VehicleKinds", spec := "vehicleKinds", apart := false }
def VehicleKindsSaid : Prop := vehicleKindsRow.holds Try.pinned (OpenSpec.ofChange vehicleKindsSpec)

/-- ITS FALSE NEIGHBOUR: 'it returns false'. Refute it at one input. -/
def vehicleKindsWrong : ChangeSpec := { name := "vehicleKinds", fn := fun _ => fun
  | [d1, d2, d3, d4] => { results := [.lit (.bool false)], args := [d1, d2, d3, d4] }
  | _ => none }
def VehicleKindsWrongFalsely : Prop := vehicleKindsRow.holds Try.pinned (OpenSpec.ofChange vehicleKindsWrong)

/-- 'recyclinglaw20.VehicleAlone': WHATEVER THE INPUT: true; the input reads as it did. -/
def vehicleAloneSpec : ChangeSpec := { name := "vehicleAlone", fn := fun _ => fun
  | [d1, d2, d3] => { results := [.lit (.bool true)], args := [d1, d2, d3] }
  | _ => none }
def vehicleAloneRow : OpenClaim := { program := "ythalbjnjlgnndaa", sum := "ba060e6f2546953db8da2278321f1afe909ac9c6cd56641d0205850ab08d6631", func := "recycling/recyclinglaw20.VehicleAlone", spec := "vehicleAlone", apart := false }
def VehicleAloneSaid : Prop := vehicleAloneRow.holds Try.pinned (OpenSpec.ofChange vehicleAloneSpec)

/-- ITS FALSE NEIGHBOUR: 'it returns false'. Refute it at one input. -/
def vehicleAloneWrong : ChangeSpec := { name := "vehicleAlone", fn := fun _ => fun
  | [d1, d2, d3] => { results := [.lit (.bool false)], args := [d1, d2, d3] }
  | _ => none }
def VehicleAloneWrongFalsely : Prop := vehicleAloneRow.holds Try.pinned (OpenSpec.ofChange vehicleAloneWrong)

/-- 'recyclinglaw20.VehicleMore': WHATEVER THE INPUT: true; the input reads as it did. -/
def vehicleMoreSpec : ChangeSpec := { name := "vehicleMore", fn := fun _ => fun
  | [d1, d2, d3, d4] => { results := [.lit (.bool true)], args := [d1, d2, d3, d4] }
  | _ => none }
def vehicleMoreRow : OpenClaim := { program := "ythalbjnjlgnndaa", sum := "ba060e6f2546953db8da2278321f1afe909ac9c6cd56641d0205850ab08d6631", func := "recycling/recyclinglaw20.VehicleMore", spec := "vehicleMore", apart := false }
def VehicleMoreSaid : Prop := vehicleMoreRow.holds Try.pinned (OpenSpec.ofChange vehicleMoreSpec)

/-- ITS FALSE NEIGHBOUR: 'it returns false'. Refute it at one input. -/
def vehicleMoreWrong : ChangeSpec := { name := "vehicleMore", fn := fun _ => fun
  | [d1, d2, d3, d4] => { results := [.lit (.bool false)], args := [d1, d2, d3, d4] }
  | _ => none }
def VehicleMoreWrongFalsely : Prop := vehicleMoreRow.holds Try.pinned (OpenSpec.ofChange vehicleMoreWrong)

/- THE SECOND FORM. 'bulk': how many values and letters a reading holds, each counted each time it is reached (what is shared counts as often as it is met; a slice's spare places count too). A statement '..UptoSaid' is the law's where the arguments, and the package variables that the reading takes, are together of bulk at most 1048576: NARROWER than '..Said'. Prove '..Said' where nothing that the law and all that it calls make is longer than what came in: it says more and counts as full. Else prove '..UptoSaid'. A law counts once. -/
mutual
def uptoBulk {H : Type} : DataW H → Nat
  | .lit (.string bytes) => bytes.length + 1
  | .lit _ => 1
  | .nil => 1
  | .ptr d => uptoBulk d + 1
  | .slice elems spare => uptoBulkAll elems + uptoBulkAll spare + 1
  | .agg parts => uptoBulkAll parts + 1
  | .iface _ d => uptoBulk d + 1
  | .map entries => uptoBulkEntries entries + 1
  | .held _ => 1
def uptoBulkAll {H : Type} : List (DataW H) → Nat
  | [] => 0
  | d :: r => uptoBulk d + uptoBulkAll r
def uptoBulkEntries {H : Type} : List (Lit × DataW H) → Nat
  | [] => 0
  | x :: r => uptoBulkEntry x + uptoBulkEntries r
def uptoBulkEntry {H : Type} : Lit × DataW H → Nat
  | (.string bytes, d) => bytes.length + uptoBulk d + 1
  | (_, d) => uptoBulk d + 1
 end
def uptoSmall : (H : Type) → List (DataW H) → Bool := fun _ ds => decide (uptoBulkAll ds ≤ 1048576)
def OpenSpec.upto (s : _root_.Go.ChangeSpec) : _root_.Go.OpenSpec := { _root_.Go.OpenSpec.ofChange s with cond := some uptoSmall }

/-- 'recyclinglaw20.VehicleChecks', WHERE WHAT IT READS IS OF BULK AT MOST 1048576: true; the input reads as it did. -/
def vehicleChecksUptoRow : OpenClaim := { program := "ythalbjnjlgnndaa", sum := "ba060e6f2546953db8da2278321f1afe909ac9c6cd56641d0205850ab08d6631", func := "recycling/recyclinglaw20.VehicleChecks", spec := "vehicleChecks", apart := false, narrowed := true }
def VehicleChecksUptoSaid : Prop := vehicleChecksUptoRow.holds Try.pinned (OpenSpec.upto vehicleChecksSpec)

/-- 'recyclinglaw20.VehicleCarries', WHERE WHAT IT READS IS OF BULK AT MOST 1048576: true; the input reads as it did. -/
def vehicleCarriesUptoRow : OpenClaim := { program := "ythalbjnjlgnndaa", sum := "ba060e6f2546953db8da2278321f1afe909ac9c6cd56641d0205850ab08d6631", func := "recycling/recyclinglaw20.VehicleCarries", spec := "vehicleCarries", apart := false, narrowed := true }
def VehicleCarriesUptoSaid : Prop := vehicleCarriesUptoRow.holds Try.pinned (OpenSpec.upto vehicleCarriesSpec)

/-- 'recyclinglaw20.VehicleFits', WHERE WHAT IT READS IS OF BULK AT MOST 1048576: true; the input reads as it did. -/
def vehicleFitsUptoRow : OpenClaim := { program := "ythalbjnjlgnndaa", sum := "ba060e6f2546953db8da2278321f1afe909ac9c6cd56641d0205850ab08d6631", func := "recycling/recyclinglaw20.VehicleFits", spec := "vehicleFits", apart := false, narrowed := true }
def VehicleFitsUptoSaid : Prop := vehicleFitsUptoRow.holds Try.pinned (OpenSpec.upto vehicleFitsSpec)

/-- 'recyclinglaw20.VehicleParts', WHERE WHAT IT READS IS OF BULK AT MOST 1048576: true; the input reads as it did. -/
def vehiclePartsUptoRow : OpenClaim := { program := "ythalbjnjlgnndaa", sum := "ba060e6f2546953db8da2278321f1afe909ac9c6cd56641d0205850ab08d6631", func := "recycling/recyclinglaw20.VehicleParts", spec := "vehicleParts", apart := false, narrowed := true }
def VehiclePartsUptoSaid : Prop := vehiclePartsUptoRow.holds Try.pinned (OpenSpec.upto vehiclePartsSpec)

/-- 'recyclinglaw20.VehicleKinds', WHERE WHAT IT READS IS OF BULK AT MOST 1048576: true; the input reads as it did. -/
def vehicleKindsUptoRow : OpenClaim := { program := "ythalbjnjlgnndaa", sum := "ba060e6f2546953db8da2278321f1afe909ac9c6cd56641d0205850ab08d6631", func := "recycling/recyclinglaw20.VehicleKinds", spec := "vehicleKinds", apart := false, narrowed := true }
def VehicleKindsUptoSaid : Prop := vehicleKindsUptoRow.holds Try.pinned (OpenSpec.upto vehicleKindsSpec)

/-- 'recyclinglaw20.VehicleAlone', WHERE WHAT IT READS IS OF BULK AT MOST 1048576: true; the input reads as it did. -/
def vehicleAloneUptoRow : OpenClaim := { program := "ythalbjnjlgnndaa", sum := "ba060e6f2546953db8da2278321f1afe909ac9c6cd56641d0205850ab08d6631", func := "recycling/recyclinglaw20.VehicleAlone", spec := "vehicleAlone", apart := false, narrowed := true }
def VehicleAloneUptoSaid : Prop := vehicleAloneUptoRow.holds Try.pinned (OpenSpec.upto vehicleAloneSpec)

/-- 'recyclinglaw20.VehicleMore', WHERE WHAT IT READS IS OF BULK AT MOST 1048576: true; the input reads as it did. -/
def vehicleMoreUptoRow : OpenClaim := { program := "ythalbjnjlgnndaa", sum := "ba060e6f2546953db8da2278321f1afe909ac9c6cd56641d0205850ab08d6631", func := "recycling/recyclinglaw20.VehicleMore", spec := "vehicleMore", apart := false, narrowed := true }
def VehicleMoreUptoSaid : Prop := vehicleMoreUptoRow.holds Try.pinned (OpenSpec.upto vehicleMoreSpec)

end Rows
end Go.Proofs.Ythalbjnjlgnndaa
