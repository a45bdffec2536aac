/- Contracts of demand.Why, Make and of the reference's Why, Make. -/
import Derived.Test.YtpeidgfaejnhiaaTskF
import Derived.Maps.AppendAt
import Derived.Deep.AppendLies
namespace Go.Proofs.Ytpeidgfaejnhiaa
open Go.RowKit Go.Maps

theorem tchk_val {E : Int} {w : World} {T : Tri} {day level : Int} (he : tskE T.C T.S T.F day level = E) (h : T.In w) : Calls Try.prog 31 #[.agg (T.ts day level)] w fun e w' => e = .returned (.int .i64 E) ∧ Below w.heap.size w w' := by rw [← he]; exact tchk_any h day level
theorem fault_val {E : Int} {w : World} {T : Tri} {day level : Int} (he : tskE T.C T.S T.F day level = E) (h : T.In w) : Calls Try.prog 23 #[.slice T.AC T.nC T.cC, .slice T.AS T.nS T.cS, .slice T.AF T.nF T.cF, .int .i64 day, .int .i64 level] w fun e w' => e = .returned (.int .i64 E) ∧ Below w.heap.size w w' := by rw [← he]; exact fault_any h day level
theorem rea_val {r : Int} {w : World} {T : Tri} {day level : Int} {i : Nat} (hr : reaV T.C T.S T.F day level i = r) (h : T.In w) (hi : i < T.nC) (hd : i64ok day) : Calls Try.prog 33 #[.agg (T.ts day level), .int .i64 (i : Int)] w fun e w' => e = .returned (.int .i64 r) ∧ Below w.heap.size w w' := by rw [← hr]; exact rea_any h day level hi hd
theorem rrea_val {r m : Int} {w : World} {T : Tri} {day level : Int} {i : Nat} (hr : reaV T.C T.S T.F day level i = r) (hm : massV T.C T.F i = m) (h : T.In w) (hi : i < T.nC) (h0 : tskE T.C T.S T.F day level = 0) :
    Calls Try.prog 24 #[.slice T.AC T.nC T.cC, .slice T.AS T.nS T.cS, .slice T.AF T.nF T.cF, .int .i64 day, .int .i64 level, .int .i64 (i : Int)] w fun e w' => e = .returned (.tuple #[.int .i64 r, .int .i64 m]) ∧ Below w.heap.size w w' := by rw [← hr, ← hm]; exact rrea_any h day level hi h0
theorem why_e {C : List Con} {S : List Sch} {F : List Fil} {day level i : Int} (h : tskE C S F day level ≠ 0) : whyE C S F day level i = tskE C S F day level ∧ whyV C S F day level i = 0 := by
  have e : whyE C S F day level i = tskE C S F day level := if_pos h
  exact ⟨e, if_neg (by rw [e]; exact h)⟩
theorem why_out {C : List Con} {S : List Sch} {F : List Fil} {day level i : Int} (h : tskE C S F day level = 0) (hi : i < 0 ∨ (C.length : Int) ≤ i) : whyE C S F day level i = 7 ∧ whyV C S F day level i = 0 := by
  have e : whyE C S F day level i = 7 := by unfold whyE; rw [if_neg (by simp [h]), if_pos hi]
  exact ⟨e, if_neg (by rw [e]; decide)⟩
theorem why_in {C : List Con} {S : List Sch} {F : List Fil} {day level i : Int} (h : tskE C S F day level = 0) (hi : ¬ (i < 0 ∨ (C.length : Int) ≤ i)) : whyE C S F day level i = 0 ∧ whyV C S F day level i = reaV C S F day level i := by
  have e : whyE C S F day level i = 0 := by unfold whyE; rw [if_neg (by simp [h]), if_neg hi]
  exact ⟨e, if_pos e⟩

set_option maxHeartbeats 1600000 in
theorem why_any {w : World} {T : Tri} (h : T.In w) (day level i : Int) (hd : i64ok day) :
    Calls Try.prog 22 #[.slice T.AC T.nC T.cC, .slice T.AS T.nS T.cS, .slice T.AF T.nF T.cF, .int .i64 day, .int .i64 level, .int .i64 i] w fun e w' => e = .returned (.tuple #[.int .i64 (whyV T.C T.S T.F day level i), .int .i64 (whyE T.C T.S T.F day level i)]) ∧ Below w.heap.size w w' := by
  have K0 : Hid (Blk (w.alloc (.cells (T.ts day level) 69)) w.heap.size 69 (T.ts day level)) := Lib.hid (Blk.new _ _ _)
  have HB0 : Hid (Below w.heap.size w (w.alloc (.cells (T.ts day level) 69))) := Lib.hid ((Below.refl _ w).alloc (Nat.le_refl _) _)
  have HIN := Lib.hid h
  have HD := Lib.hid hd
  have HCL := Lib.hid h.c.1
  clear h hd
  by_cases h0 : tskE T.C T.S T.F day level = 0
  · have H0 := Lib.hid h0
    cases hi : inB T.nC i
    · have hi' := inB_not.1 hi
      have HI := Lib.hid hi
      obtain ⟨e1, e2⟩ := why_out (i := i) h0 (by rw [HCL.out]; omega)
      rw [e1, e2]
      clear h0 hi hi' e1 e2
      go_enter Try.func22, Try.ntmps22
      go_wp2_with (first
        | (go_at_call 31; ((with_reducible refine (tchk_val H0.out (HIN.out.up HB0.out)).mono ?_); rintro e w1 ⟨rfl, hb1⟩; have HB1 := Lib.hid (bthen HB0.out hb1 HB0.out.size); have K1 := Lib.hid (K0.out.grow hb1); obtain ⟨c0, c1, c2, c3, c4⟩ := tskCells K1.out; have z1 := K1.out.lt; clear hb1))
        | (go_at_call 35; ((with_reducible refine (tidx_val HI.out _ _ _ _ _ _ _ _ _ _ _).mono ?_); rintro e w' ⟨rfl, rfl⟩)))
      go_ret2
      exact ⟨rfl, bthen HB1.out (by go_grown) HB1.out.size⟩
    · obtain ⟨i1, i2⟩ := inB_iff.1 hi
      obtain ⟨j, rfl⟩ := Int.eq_ofNat_of_zero_le i1
      have HI := Lib.hid hi
      have HJ : Hid (j < T.nC) := Lib.hid (by omega)
      obtain ⟨e1, e2⟩ := why_in (i := (j : Int)) h0 (by rw [HCL.out]; omega)
      rw [e1, e2]
      obtain ⟨r, hr⟩ : ∃ r, reaV T.C T.S T.F day level (j : Int) = r := ⟨_, rfl⟩
      have HR := Lib.hid hr
      rw [hr]
      clear h0 hi e1 e2 hr
      go_enter Try.func22, Try.ntmps22
      go_wp2_with (first
        | (go_at_call 31; ((with_reducible refine (tchk_val H0.out (HIN.out.up HB0.out)).mono ?_); rintro e w1 ⟨rfl, hb1⟩; have HB1 := Lib.hid (bthen HB0.out hb1 HB0.out.size); have K1 := Lib.hid (K0.out.grow hb1); obtain ⟨c0, c1, c2, c3, c4⟩ := tskCells K1.out; have z1 := K1.out.lt; clear hb1))
        | (go_at_call 35; ((with_reducible refine (tidx_val HI.out _ _ _ _ _ _ _ _ _ _ _).mono ?_); rintro e w' ⟨rfl, rfl⟩; have HB2 := Lib.hid (HB1.out.alloc HB1.out.size (.cells (T.ts day level) 69))))
        | (go_at_call 33; ((with_reducible refine (rea_val HR.out (HIN.out.up HB2.out) HJ.out HD.out).mono ?_); rintro e w3 ⟨rfl, hb3⟩; have HB3 := Lib.hid (bthen HB2.out hb3 HB2.out.size); clear hb3)))
      go_ret2
      exact ⟨rfl, HB3.out⟩
  · obtain ⟨e1, e2⟩ := why_e (i := i) h0
    rw [e1, e2]
    obtain ⟨E, hEE⟩ : ∃ E, tskE T.C T.S T.F day level = E := ⟨_, rfl⟩
    rw [hEE] at h0 ⊢
    have H0 := Lib.hid hEE
    have he2 : (E != 0) = true := by simpa using h0
    clear h0 e1 e2 hEE
    go_enter Try.func22, Try.ntmps22
    go_wp2_with (first
      | (go_at_call 31; ((with_reducible refine (tchk_val H0.out (HIN.out.up HB0.out)).mono ?_); rintro e w1 ⟨rfl, hb1⟩; have HB1 := Lib.hid (bthen HB0.out hb1 HB0.out.size); clear hb1)))
    go_ret2
    exact ⟨rfl, HB1.out⟩

set_option maxHeartbeats 1600000 in
theorem rwhy_any {w : World} {T : Tri} (h : T.In w) (day level i : Int) :
    Calls Try.prog 15 #[.slice T.AC T.nC T.cC, .slice T.AS T.nS T.cS, .slice T.AF T.nF T.cF, .int .i64 day, .int .i64 level, .int .i64 i] w fun e w' => e = .returned (.tuple #[.int .i64 (whyV T.C T.S T.F day level i), .int .i64 (whyE T.C T.S T.F day level i)]) ∧ Below w.heap.size w w' := by
  have HIN := Lib.hid h
  have HCL := Lib.hid h.c.1
  clear h
  by_cases h0 : tskE T.C T.S T.F day level = 0
  · have H0 := Lib.hid h0
    by_cases hi : i < 0 ∨ (T.nC : Int) ≤ i
    · obtain ⟨e1, e2⟩ := why_out (i := i) h0 (by rw [HCL.out]; omega)
      rw [e1, e2]
      clear h0 e1 e2
      go_enter Try.func15, Try.ntmps15
      go_wp2_with (first
        | (go_at_call 23; ((with_reducible refine (fault_val H0.out HIN.out).mono ?_); rintro e w1 ⟨rfl, hb1⟩; have HB1 := Lib.hid hb1; clear hb1)))
      all_goals first | (exfalso; omega) | (go_ret2; exact ⟨rfl, HB1.out⟩)
    · obtain ⟨j, rfl⟩ := Int.eq_ofNat_of_zero_le (by omega : 0 ≤ i)
      have hj : j < T.nC := by omega
      have HJ := Lib.hid hj
      obtain ⟨e1, e2⟩ := why_in (i := (j : Int)) h0 (by rw [HCL.out]; omega)
      rw [e1, e2]
      obtain ⟨r, hr⟩ : ∃ r, reaV T.C T.S T.F day level (j : Int) = r := ⟨_, rfl⟩
      have HR := Lib.hid hr
      rw [hr]
      clear h0 hi e1 e2 hr
      go_enter Try.func15, Try.ntmps15
      go_wp2_with (first
        | (go_at_call 23; ((with_reducible refine (fault_val H0.out HIN.out).mono ?_); rintro e w1 ⟨rfl, hb1⟩; have HB1 := Lib.hid hb1; clear hb1))
        | (go_at_call 24; ((with_reducible refine (rrea_val HR.out rfl (HIN.out.up HB1.out) HJ.out H0.out).mono ?_); rintro e w3 ⟨rfl, hb3⟩; have HB3 := Lib.hid (bthen HB1.out hb3 HB1.out.size); clear hb3)))
      go_ret2
      exact ⟨rfl, HB3.out⟩
  · obtain ⟨e1, e2⟩ := why_e (i := i) h0
    rw [e1, e2]
    obtain ⟨E, hEE⟩ : ∃ E, tskE T.C T.S T.F day level = E := ⟨_, rfl⟩
    rw [hEE] at h0 ⊢
    have H0 := Lib.hid hEE
    have he2 : (E != 0) = true := by simpa using h0
    clear h0 e1 e2 hEE
    go_enter Try.func15, Try.ntmps15
    go_wp2_with (first
      | (go_at_call 23; ((with_reducible refine (fault_val H0.out HIN.out).mono ?_); rintro e w1 ⟨rfl, hb1⟩; have HB1 := Lib.hid hb1; clear hb1)))
    go_ret2
    exact ⟨rfl, HB1.out⟩
end Go.Proofs.Ytpeidgfaejnhiaa
