/- The contracts of estimate, rate, Full, Both of package fill and of the reference. -/
import Derived.Test.YtopdcngplcoejaaRlevel2
namespace Go.Proofs.Ytopdcngplcoejaa
open Go.RowKit

def estB (lo hi : Int) : Bool := decide (0 ≤ lo ∧ lo ≤ hi ∧ hi ≤ 1073741824)
theorem estB_true {lo hi : Int} (h : 0 ≤ lo ∧ lo ≤ hi ∧ hi ≤ 1073741824) : estB lo hi = true := by simp [estB, h]
theorem estB_false {lo hi : Int} (h : ¬ (0 ≤ lo ∧ lo ≤ hi ∧ hi ≤ 1073741824)) : estB lo hi = false := by simp only [estB, h, decide_false]
theorem estB_iff {lo hi : Int} : estB lo hi = true ↔ (0 ≤ lo ∧ lo ≤ hi ∧ hi ≤ 1073741824) := by simp [estB]
theorem ret_bool {a b : Bool} (h : a = b) : Ending.returned (.bool a) = .returned (.bool b) := by rw [h]

set_option maxHeartbeats 400000 in
theorem estimate_any (lo hi : Int) (w : World) : Calls Try.prog 29 #[.agg #[.int .i64 lo, .int .i64 hi]] w fun e w' => e = .returned (.bool (estB lo hi)) ∧ w' = w.alloc (.cells #[.int .i64 lo, .int .i64 hi] 25) := by
  by_cases h1 : lo < 0
  · go_enter Try.func29, Try.ntmps29
    go_wp2
    go_ret
    exact ⟨ret_bool (by first | exact (estB_false (by omega)).symm | (rw [estB_false (by omega)]; simp; omega)), rfl⟩
  by_cases h2 : hi < lo
  · go_enter Try.func29, Try.ntmps29
    go_wp2
    go_ret
    exact ⟨ret_bool (by first | exact (estB_false (by omega)).symm | (rw [estB_false (by omega)]; simp; omega)), rfl⟩
  by_cases h3 : 1073741824 < hi
  · go_enter Try.func29, Try.ntmps29
    go_wp2
    go_ret
    exact ⟨ret_bool (by first | exact (estB_false (by omega)).symm | (rw [estB_false (by omega)]; simp; omega)), rfl⟩
  · go_enter Try.func29, Try.ntmps29
    go_wp2
    go_ret
    exact ⟨ret_bool (by first | exact (estB_true (by omega)).symm | (rw [estB_true (by omega)]; simp; omega)), rfl⟩

set_option maxHeartbeats 400000 in
theorem restimate_any (lo hi : Int) (w : World) : Calls Try.prog 31 #[.agg #[.int .i64 lo, .int .i64 hi]] w fun e w' => e = .returned (.bool (estB lo hi)) ∧ w' = w.alloc (.cells #[.int .i64 lo, .int .i64 hi] 25) := by
  by_cases h1 : lo < 0
  · go_enter Try.func31, Try.ntmps31
    go_wp2
    go_ret
    exact ⟨ret_bool (by first | exact (estB_false (by omega)).symm | (rw [estB_false (by omega)]; simp; omega)), rfl⟩
  by_cases h2 : hi < lo
  · go_enter Try.func31, Try.ntmps31
    go_wp2
    go_ret
    exact ⟨ret_bool (by first | exact (estB_false (by omega)).symm | (rw [estB_false (by omega)]; simp; omega)), rfl⟩
  by_cases h3 : 1073741824 < hi
  · go_enter Try.func31, Try.ntmps31
    go_wp2
    go_ret
    exact ⟨ret_bool (by first | exact (estB_false (by omega)).symm | (rw [estB_false (by omega)]; simp; omega)), rfl⟩
  · go_enter Try.func31, Try.ntmps31
    go_wp2
    go_ret
    exact ⟨ret_bool (by first | exact (estB_true (by omega)).symm | (rw [estB_true (by omega)]; simp; omega)), rfl⟩
set_option maxHeartbeats 400000 in
theorem rate_any (lo hi : Int) (w : World) : Calls Try.prog 30 #[.agg #[.int .i64 lo, .int .i64 hi]] w fun e w' => e = .returned (.bool (estB lo hi)) ∧ w' = w.alloc (.cells #[.int .i64 lo, .int .i64 hi] 37) := by
  by_cases h1 : lo < 0
  · go_enter Try.func30, Try.ntmps30
    go_wp2
    go_ret
    exact ⟨ret_bool (by first | exact (estB_false (by omega)).symm | (rw [estB_false (by omega)]; simp; omega)), rfl⟩
  by_cases h2 : hi < lo
  · go_enter Try.func30, Try.ntmps30
    go_wp2
    go_ret
    exact ⟨ret_bool (by first | exact (estB_false (by omega)).symm | (rw [estB_false (by omega)]; simp; omega)), rfl⟩
  by_cases h3 : 1073741824 < hi
  · go_enter Try.func30, Try.ntmps30
    go_wp2
    go_ret
    exact ⟨ret_bool (by first | exact (estB_false (by omega)).symm | (rw [estB_false (by omega)]; simp; omega)), rfl⟩
  · go_enter Try.func30, Try.ntmps30
    go_wp2
    go_ret
    exact ⟨ret_bool (by first | exact (estB_true (by omega)).symm | (rw [estB_true (by omega)]; simp; omega)), rfl⟩

set_option maxHeartbeats 400000 in
theorem rrate_any (lo hi : Int) (w : World) : Calls Try.prog 32 #[.agg #[.int .i64 lo, .int .i64 hi]] w fun e w' => e = .returned (.bool (estB lo hi)) ∧ w' = w.alloc (.cells #[.int .i64 lo, .int .i64 hi] 37) := by
  by_cases h1 : lo < 0
  · go_enter Try.func32, Try.ntmps32
    go_wp2
    go_ret
    exact ⟨ret_bool (by first | exact (estB_false (by omega)).symm | (rw [estB_false (by omega)]; simp; omega)), rfl⟩
  by_cases h2 : hi < lo
  · go_enter Try.func32, Try.ntmps32
    go_wp2
    go_ret
    exact ⟨ret_bool (by first | exact (estB_false (by omega)).symm | (rw [estB_false (by omega)]; simp; omega)), rfl⟩
  by_cases h3 : 1073741824 < hi
  · go_enter Try.func32, Try.ntmps32
    go_wp2
    go_ret
    exact ⟨ret_bool (by first | exact (estB_false (by omega)).symm | (rw [estB_false (by omega)]; simp; omega)), rfl⟩
  · go_enter Try.func32, Try.ntmps32
    go_wp2
    go_ret
    exact ⟨ret_bool (by first | exact (estB_true (by omega)).symm | (rw [estB_true (by omega)]; simp; omega)), rfl⟩

/-- Full's seconds and errno -/
def fullV (lo hi mn mx lim : Int) : Int × Int :=
  if estB lo hi = false ∨ estB mn mx = false ∨ lim < 0 ∨ 1073741824 < lim then (0, 1) else if lim < hi then (0, 0) else if mx = 0 then (0, 7) else if 3155759999 < (lim - hi) * 86400 / mx + 1 then (0, 7) else ((lim - hi) * 86400 / mx + 1, 0)

set_option maxRecDepth 100000 in
set_option maxHeartbeats 800000 in
theorem full_bad (lo hi mn mx lim : Int) (w : World) (h : estB lo hi = false ∨ estB mn mx = false ∨ lim < 0 ∨ 1073741824 < lim) :
    Calls Try.prog 20 #[.agg #[.int .i64 lo, .int .i64 hi], .agg #[.int .i64 mn, .int .i64 mx], .int .i64 lim] w fun e w' => e = .returned (.tuple #[.int .i64 0, .int .i64 1]) ∧ Below w.heap.size w w' := by
  cases h1 : estB lo hi
  · have H1 := Lib.hid h1
    clear h1 h
    go_enter Try.func20, Try.ntmps20
    go_wp2_with fail
    refine (estimate_any _ _ _).mono ?_
    rw [H1.out]
    rintro e w1 ⟨rfl, rfl⟩
    go_wp2_with fail
    go_ret2
    exact ⟨rfl, by go_grown⟩
  · cases h2 : estB mn mx
    · have H1 := Lib.hid h1
      have H2 := Lib.hid h2
      clear h1 h2 h
      go_enter Try.func20, Try.ntmps20
      go_wp2_with fail
      refine (estimate_any _ _ _).mono ?_
      rw [H1.out]
      rintro e w1 ⟨rfl, rfl⟩
      go_wp2_with fail
      refine (rate_any _ _ _).mono ?_
      rw [H2.out]
      rintro e w1 ⟨rfl, rfl⟩
      go_wp2_with fail
      go_ret2
      exact ⟨rfl, by go_grown⟩
    · have H1 := Lib.hid h1
      have H2 := Lib.hid h2
      have h3 : lim < 0 ∨ (0 ≤ lim ∧ 1073741824 < lim) := by
        rcases h with h | h | h | h
        · rw [h1] at h; cases h
        · rw [h2] at h; cases h
        · exact .inl h
        · exact .inr ⟨by omega, h⟩
      clear h1 h2 h
      rcases h3 with h3 | ⟨h3, h4⟩
      all_goals
        go_enter Try.func20, Try.ntmps20
        go_wp2_with fail
        refine (estimate_any _ _ _).mono ?_
        rw [H1.out]
        rintro e w1 ⟨rfl, rfl⟩
        go_wp2_with fail
        refine (rate_any _ _ _).mono ?_
        rw [H2.out]
        rintro e w1 ⟨rfl, rfl⟩
        go_wp2_with fail
        go_ret2
        exact ⟨rfl, by go_grown⟩
set_option maxRecDepth 100000 in
set_option maxHeartbeats 1600000 in
theorem full_in (lo hi mn mx lim : Int) (w : World) (h1 : estB lo hi = true) (h2 : estB mn mx = true) (h3 : 0 ≤ lim) (h4 : lim ≤ 1073741824) :
    Calls Try.prog 20 #[.agg #[.int .i64 lo, .int .i64 hi], .agg #[.int .i64 mn, .int .i64 mx], .int .i64 lim] w fun e w' => e = .returned (.tuple #[.int .i64 (fullV lo hi mn mx lim).1, .int .i64 (fullV lo hi mn mx lim).2]) ∧ Below w.heap.size w w' := by
  have a1 := estB_iff.1 h1
  have a2 := estB_iff.1 h2
  have hno : ¬ (estB lo hi = false ∨ estB mn mx = false ∨ lim < 0 ∨ 1073741824 < lim) := by rw [h1, h2]; simp; omega
  have H1 := Lib.hid h1
  have H2 := Lib.hid h2
  clear h1 h2
  by_cases g1 : lim < hi
  · have hV : fullV lo hi mn mx lim = (0, 0) := by unfold fullV; rw [if_neg hno, if_pos g1]
    rw [hV]
    clear hV hno
    go_enter Try.func20, Try.ntmps20
    go_wp2_with fail
    refine (estimate_any _ _ _).mono ?_
    rw [H1.out]
    rintro e w1 ⟨rfl, rfl⟩
    go_wp2_with fail
    refine (rate_any _ _ _).mono ?_
    rw [H2.out]
    rintro e w1 ⟨rfl, rfl⟩
    go_wp2_with fail
    go_ret2
    exact ⟨rfl, by go_grown⟩
  · by_cases g2 : mx = 0
    · have hV : fullV lo hi mn mx lim = (0, 7) := by unfold fullV; rw [if_neg hno, if_neg g1, if_pos g2]
      rw [hV]
      subst g2
      clear hV hno
      go_enter Try.func20, Try.ntmps20
      go_wp2_with fail
      refine (estimate_any _ _ _).mono ?_
      rw [H1.out]
      rintro e w1 ⟨rfl, rfl⟩
      go_wp2_with fail
      refine (rate_any _ _ _).mono ?_
      rw [H2.out]
      rintro e w1 ⟨rfl, rfl⟩
      go_wp2_with fail
      go_ret2
      exact ⟨rfl, by go_grown⟩
    · have q1 := div_bd ((lim - hi) * 86400) mx (by omega) (by omega)
      have nz : (mx == 0) = false := beq_eq_false_iff_ne.2 g2
      by_cases g3 : 3155759999 < (lim - hi) * 86400 / mx + 1
      · have hV : fullV lo hi mn mx lim = (0, 7) := by unfold fullV; rw [if_neg hno, if_neg g1, if_neg g2, if_pos g3]
        rw [hV]
        clear hV hno
        go_enter Try.func20, Try.ntmps20
        go_wp2_with fail
        refine (estimate_any _ _ _).mono ?_
        rw [H1.out]
        rintro e w1 ⟨rfl, rfl⟩
        go_wp2_with fail
        refine (rate_any _ _ _).mono ?_
        rw [H2.out]
        rintro e w1 ⟨rfl, rfl⟩
        go_wp2_with fail
        go_ret2
        exact ⟨rfl, by go_grown⟩
      · have hV : fullV lo hi mn mx lim = ((lim - hi) * 86400 / mx + 1, 0) := by unfold fullV; rw [if_neg hno, if_neg g1, if_neg g2, if_neg g3]
        rw [hV]
        clear hV hno
        go_enter Try.func20, Try.ntmps20
        go_wp2_with fail
        refine (estimate_any _ _ _).mono ?_
        rw [H1.out]
        rintro e w1 ⟨rfl, rfl⟩
        go_wp2_with fail
        refine (rate_any _ _ _).mono ?_
        rw [H2.out]
        rintro e w1 ⟨rfl, rfl⟩
        go_wp2_with fail
        go_ret2
        exact ⟨rfl, by go_grown⟩
theorem full_any (lo hi mn mx lim : Int) (w : World) :
    Calls Try.prog 20 #[.agg #[.int .i64 lo, .int .i64 hi], .agg #[.int .i64 mn, .int .i64 mx], .int .i64 lim] w fun e w' => e = .returned (.tuple #[.int .i64 (fullV lo hi mn mx lim).1, .int .i64 (fullV lo hi mn mx lim).2]) ∧ Below w.heap.size w w' := by
  by_cases h : estB lo hi = false ∨ estB mn mx = false ∨ lim < 0 ∨ 1073741824 < lim
  · have hV : fullV lo hi mn mx lim = (0, 1) := if_pos h
    rw [hV]
    exact full_bad lo hi mn mx lim w h
  · have h1 : estB lo hi = true := by cases e : estB lo hi; exact absurd (.inl e) h; rfl
    have h2 : estB mn mx = true := by cases e : estB mn mx; exact absurd (.inr (.inl e)) h; rfl
    have h' : ¬ (lim < 0 ∨ 1073741824 < lim) := fun x => h (.inr (.inr x))
    exact full_in lo hi mn mx lim w h1 h2 (by omega) (by omega)

set_option maxRecDepth 100000 in
set_option maxHeartbeats 800000 in
theorem rfull_bad (lo hi mn mx lim : Int) (w : World) (h : estB lo hi = false ∨ estB mn mx = false ∨ lim < 0 ∨ 1073741824 < lim) :
    Calls Try.prog 21 #[.agg #[.int .i64 lo, .int .i64 hi], .agg #[.int .i64 mn, .int .i64 mx], .int .i64 lim] w fun e w' => e = .returned (.tuple #[.int .i64 0, .int .i64 1]) ∧ Below w.heap.size w w' := by
  cases h1 : estB lo hi
  · have H1 := Lib.hid h1
    clear h1 h
    go_enter Try.func21, Try.ntmps21
    go_wp2_with fail
    refine (restimate_any _ _ _).mono ?_
    rw [H1.out]
    rintro e w1 ⟨rfl, rfl⟩
    go_wp2_with fail
    go_ret2
    exact ⟨rfl, by go_grown⟩
  · cases h2 : estB mn mx
    · have H1 := Lib.hid h1
      have H2 := Lib.hid h2
      clear h1 h2 h
      go_enter Try.func21, Try.ntmps21
      go_wp2_with fail
      refine (restimate_any _ _ _).mono ?_
      rw [H1.out]
      rintro e w1 ⟨rfl, rfl⟩
      go_wp2_with fail
      refine (rrate_any _ _ _).mono ?_
      rw [H2.out]
      rintro e w1 ⟨rfl, rfl⟩
      go_wp2_with fail
      go_ret2
      exact ⟨rfl, by go_grown⟩
    · have H1 := Lib.hid h1
      have H2 := Lib.hid h2
      have h3 : lim < 0 ∨ (0 ≤ lim ∧ 1073741824 < lim) := by
        rcases h with h | h | h | h
        · rw [h1] at h; cases h
        · rw [h2] at h; cases h
        · exact .inl h
        · exact .inr ⟨by omega, h⟩
      clear h1 h2 h
      rcases h3 with h3 | ⟨h3, h4⟩
      all_goals
        go_enter Try.func21, Try.ntmps21
        go_wp2_with fail
        refine (restimate_any _ _ _).mono ?_
        rw [H1.out]
        rintro e w1 ⟨rfl, rfl⟩
        go_wp2_with fail
        refine (rrate_any _ _ _).mono ?_
        rw [H2.out]
        rintro e w1 ⟨rfl, rfl⟩
        go_wp2_with fail
        go_ret2
        exact ⟨rfl, by go_grown⟩
set_option maxRecDepth 100000 in
set_option maxHeartbeats 1600000 in
theorem rfull_in (lo hi mn mx lim : Int) (w : World) (h1 : estB lo hi = true) (h2 : estB mn mx = true) (h3 : 0 ≤ lim) (h4 : lim ≤ 1073741824) :
    Calls Try.prog 21 #[.agg #[.int .i64 lo, .int .i64 hi], .agg #[.int .i64 mn, .int .i64 mx], .int .i64 lim] w fun e w' => e = .returned (.tuple #[.int .i64 (fullV lo hi mn mx lim).1, .int .i64 (fullV lo hi mn mx lim).2]) ∧ Below w.heap.size w w' := by
  have a1 := estB_iff.1 h1
  have a2 := estB_iff.1 h2
  have hno : ¬ (estB lo hi = false ∨ estB mn mx = false ∨ lim < 0 ∨ 1073741824 < lim) := by rw [h1, h2]; simp; omega
  have H1 := Lib.hid h1
  have H2 := Lib.hid h2
  clear h1 h2
  by_cases g1 : lim < hi
  · have hV : fullV lo hi mn mx lim = (0, 0) := by unfold fullV; rw [if_neg hno, if_pos g1]
    rw [hV]
    clear hV hno
    go_enter Try.func21, Try.ntmps21
    go_wp2_with fail
    refine (restimate_any _ _ _).mono ?_
    rw [H1.out]
    rintro e w1 ⟨rfl, rfl⟩
    go_wp2_with fail
    refine (rrate_any _ _ _).mono ?_
    rw [H2.out]
    rintro e w1 ⟨rfl, rfl⟩
    go_wp2_with fail
    go_ret2
    exact ⟨rfl, by go_grown⟩
  · by_cases g2 : mx = 0
    · have hV : fullV lo hi mn mx lim = (0, 7) := by unfold fullV; rw [if_neg hno, if_neg g1, if_pos g2]
      rw [hV]
      subst g2
      clear hV hno
      go_enter Try.func21, Try.ntmps21
      go_wp2_with fail
      refine (restimate_any _ _ _).mono ?_
      rw [H1.out]
      rintro e w1 ⟨rfl, rfl⟩
      go_wp2_with fail
      refine (rrate_any _ _ _).mono ?_
      rw [H2.out]
      rintro e w1 ⟨rfl, rfl⟩
      go_wp2_with fail
      go_ret2
      exact ⟨rfl, by go_grown⟩
    · have q1 := div_bd ((lim - hi) * 86400) mx (by omega) (by omega)
      have nz : (mx == 0) = false := beq_eq_false_iff_ne.2 g2
      by_cases g3 : 3155759999 < (lim - hi) * 86400 / mx + 1
      · have hV : fullV lo hi mn mx lim = (0, 7) := by unfold fullV; rw [if_neg hno, if_neg g1, if_neg g2, if_pos g3]
        rw [hV]
        clear hV hno
        go_enter Try.func21, Try.ntmps21
        go_wp2_with fail
        refine (restimate_any _ _ _).mono ?_
        rw [H1.out]
        rintro e w1 ⟨rfl, rfl⟩
        go_wp2_with fail
        refine (rrate_any _ _ _).mono ?_
        rw [H2.out]
        rintro e w1 ⟨rfl, rfl⟩
        go_wp2_with fail
        go_ret2
        exact ⟨rfl, by go_grown⟩
      · have hV : fullV lo hi mn mx lim = ((lim - hi) * 86400 / mx + 1, 0) := by unfold fullV; rw [if_neg hno, if_neg g1, if_neg g2, if_neg g3]
        rw [hV]
        clear hV hno
        go_enter Try.func21, Try.ntmps21
        go_wp2_with fail
        refine (restimate_any _ _ _).mono ?_
        rw [H1.out]
        rintro e w1 ⟨rfl, rfl⟩
        go_wp2_with fail
        refine (rrate_any _ _ _).mono ?_
        rw [H2.out]
        rintro e w1 ⟨rfl, rfl⟩
        go_wp2_with fail
        go_ret2
        exact ⟨rfl, by go_grown⟩
theorem rfull_any (lo hi mn mx lim : Int) (w : World) :
    Calls Try.prog 21 #[.agg #[.int .i64 lo, .int .i64 hi], .agg #[.int .i64 mn, .int .i64 mx], .int .i64 lim] w fun e w' => e = .returned (.tuple #[.int .i64 (fullV lo hi mn mx lim).1, .int .i64 (fullV lo hi mn mx lim).2]) ∧ Below w.heap.size w w' := by
  by_cases h : estB lo hi = false ∨ estB mn mx = false ∨ lim < 0 ∨ 1073741824 < lim
  · have hV : fullV lo hi mn mx lim = (0, 1) := if_pos h
    rw [hV]
    exact rfull_bad lo hi mn mx lim w h
  · have h1 : estB lo hi = true := by cases e : estB lo hi; exact absurd (.inl e) h; rfl
    have h2 : estB mn mx = true := by cases e : estB mn mx; exact absurd (.inr (.inl e)) h; rfl
    have h' : ¬ (lim < 0 ∨ 1073741824 < lim) := fun x => h (.inr (.inr x))
    exact rfull_in lo hi mn mx lim w h1 h2 (by omega) (by omega)
end Go.Proofs.Ytopdcngplcoejaa
