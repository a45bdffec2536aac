/- Contracts of demand.Why, Make and of the reference's Why, Make. -/
import Derived.Test.YtmkbgjilkdbmiaaTskF
import Derived.Maps.AppendAt
import Derived.Deep.AppendLies
namespace Go.Proofs.Ytmkbgjilkdbmiaa
open Go.RowKit Go.Maps

theorem tchk_val {E : Int} {w : World} {T : Tri} {day level : Int} (he : tskE T.C T.S T.F day level = E) (h : T.In w) : Calls Try.prog 14 #[.agg (T.ts day level)] w fun e w' => e = .returned (.int .i64 E) ∧ Below w.heap.size w w' := by rw [← he]; exact tchk_any h day level
theorem rea_val {r : Int} {w : World} {T : Tri} {day level : Int} {i : Nat} (hr : reaV T.C T.S T.F day level i = r) (h : T.In w) (hi : i < T.nC) (hd : i64ok day) : Calls Try.prog 16 #[.agg (T.ts day level), .int .i64 (i : Int)] w fun e w' => e = .returned (.int .i64 r) ∧ Below w.heap.size w w' := by rw [← hr]; exact rea_any h day level hi hd
theorem why_e {C : List Con} {S : List Sch} {F : List Fil} {day level i : Int} (h : tskE C S F day level ≠ 0) : whyE C S F day level i = tskE C S F day level ∧ whyV C S F day level i = 0 := by
  have e : whyE C S F day level i = tskE C S F day level := if_pos h
  exact ⟨e, if_neg (by rw [e]; exact h)⟩
theorem why_out {C : List Con} {S : List Sch} {F : List Fil} {day level i : Int} (h : tskE C S F day level = 0) (hi : i < 0 ∨ (C.length : Int) ≤ i) : whyE C S F day level i = 7 ∧ whyV C S F day level i = 0 := by
  have e : whyE C S F day level i = 7 := by unfold whyE; rw [if_neg (by simp [h]), if_pos hi]
  exact ⟨e, if_neg (by rw [e]; decide)⟩
theorem why_in {C : List Con} {S : List Sch} {F : List Fil} {day level i : Int} (h : tskE C S F day level = 0) (hi : ¬ (i < 0 ∨ (C.length : Int) ≤ i)) : whyE C S F day level i = 0 ∧ whyV C S F day level i = reaV C S F day level i := by
  have e : whyE C S F day level i = 0 := by unfold whyE; rw [if_neg (by simp [h]), if_neg hi]
  exact ⟨e, if_pos e⟩

end Go.Proofs.Ytmkbgjilkdbmiaa
