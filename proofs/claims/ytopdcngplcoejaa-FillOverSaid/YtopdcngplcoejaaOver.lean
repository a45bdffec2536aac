/- Plain arithmetic: what Full's seconds mean for Later (for FillOver). -/
import Derived.Test.YtopdcngplcoejaaFill3
namespace Go.Proofs.Ytopdcngplcoejaa

theorem ceil_le {a b c : Int} (hb : 1 ≤ b) (h : a ≤ c * b) : (a + b - 1) / b ≤ c := by
  have : (a + b - 1) / b < c + 1 := Int.ediv_lt_of_lt_mul (by omega) (by
    have e : (c + 1) * b = c * b + b := by rw [Int.add_mul, Int.one_mul]
    omega)
  omega
theorem ceil_gt {a b c : Int} (hb : 1 ≤ b) (h : c * b < a) : c < (a + b - 1) / b := by
  have : c + 1 ≤ (a + b - 1) / b := (Int.le_ediv_iff_mul_le (by omega)).2 (by
    have e : (c + 1) * b = c * b + b := by rw [Int.add_mul, Int.one_mul]
    omega)
  omega
theorem laterBad_false {lo hi mn mx secs : Int} (h1 : estB lo hi = true) (h2 : estB mn mx = true) (h3 : 0 ≤ secs) (h4 : secs ≤ 3155759999) : laterBad lo hi mn mx secs 1073741824 = false := by
  unfold laterBad
  rw [h1, h2]
  simp
  omega
theorem later_v {lo hi mn mx secs : Int} (h1 : estB lo hi = true) (h2 : estB mn mx = true) (h3 : 0 ≤ secs) (h4 : secs ≤ 3155759999) :
    laterE lo hi mn mx secs 1073741824 = 0 ∧ laterHi lo hi mn mx secs 1073741824 = min (hi + (mx * secs + 86400 - 1) / 86400) 1073741824 := by
  have hb := laterBad_false h1 h2 h3 h4
  unfold laterE laterHi
  rw [hb]
  exact ⟨if_neg (by decide), if_neg (by decide)⟩

theorem over {lo hi mn mx lim : Int} :
    ((fullV lo hi mn mx lim).2 = 1 ∨ ((fullV lo hi mn mx lim).2 ≠ 1 ∧ 1073741824 ≤ lim)) ∨
    (lim < 1073741824 ∧ (fullV lo hi mn mx lim).2 = 0 ∧ laterE lo hi mn mx (fullV lo hi mn mx lim).1 1073741824 = 0 ∧ lim < laterHi lo hi mn mx (fullV lo hi mn mx lim).1 1073741824 ∧
      ((fullV lo hi mn mx lim).1 = 0 ∨ (1 ≤ (fullV lo hi mn mx lim).1 ∧ (fullV lo hi mn mx lim).1 ≤ 3155759999 ∧ laterE lo hi mn mx ((fullV lo hi mn mx lim).1 - 1) 1073741824 = 0 ∧ laterHi lo hi mn mx ((fullV lo hi mn mx lim).1 - 1) 1073741824 ≤ lim))) ∨
    (lim < 1073741824 ∧ (fullV lo hi mn mx lim).2 = 7 ∧ laterE lo hi mn mx 3155759999 1073741824 = 0 ∧ laterHi lo hi mn mx 3155759999 1073741824 ≤ lim) := by
  by_cases c0 : estB lo hi = false ∨ estB mn mx = false ∨ lim < 0 ∨ 1073741824 < lim
  · left; left; unfold fullV; rw [if_pos c0]
  have h1 : estB lo hi = true := by cases e : estB lo hi; exact absurd (.inl e) c0; rfl
  have h2 : estB mn mx = true := by cases e : estB mn mx; exact absurd (.inr (.inl e)) c0; rfl
  have h3 : ¬ (lim < 0 ∨ 1073741824 < lim) := fun x => c0 (.inr (.inr x))
  have a1 := estB_iff.1 h1
  have a2 := estB_iff.1 h2
  by_cases hl : 1073741824 ≤ lim
  · left
    right
    refine ⟨?_, hl⟩
    unfold fullV
    rw [if_neg c0]
    split
    · decide
    · split
      · decide
      · split <;> simp
  by_cases c1 : lim < hi
  · have e : fullV lo hi mn mx lim = (0, 0) := by unfold fullV; rw [if_neg c0, if_pos c1]
    rw [e]
    obtain ⟨e1, e2⟩ := later_v (secs := 0) h1 h2 (by omega) (by omega)
    refine .inr (.inl ⟨by omega, rfl, e1, ?_, .inl rfl⟩)
    rw [e2]
    have : (mx * 0 + 86400 - 1) / 86400 = 0 := by simp
    simp only [this]
    omega
  by_cases c2 : mx = 0
  · have e : fullV lo hi mn mx lim = (0, 7) := by unfold fullV; rw [if_neg c0, if_neg c1, if_pos c2]
    rw [e]
    obtain ⟨e1, e2⟩ := later_v (secs := 3155759999) h1 h2 (by omega) (by omega)
    refine .inr (.inr ⟨by omega, rfl, e1, ?_⟩)
    rw [e2, c2]
    have : ((0 : Int) * 3155759999 + 86400 - 1) / 86400 = 0 := by decide
    simp only [this]
    omega
  have hq0 : 0 ≤ (lim - hi) * 86400 / mx := Int.ediv_nonneg (by omega) (by omega)
  have hq1 : (lim - hi) * 86400 / mx * mx ≤ (lim - hi) * 86400 := Int.ediv_mul_le _ (by omega)
  have hq2 : (lim - hi) * 86400 < ((lim - hi) * 86400 / mx + 1) * mx := Int.lt_ediv_add_one_mul_self _ (by omega)
  by_cases c3 : 3155759999 < (lim - hi) * 86400 / mx + 1
  · have e : fullV lo hi mn mx lim = (0, 7) := by unfold fullV; rw [if_neg c0, if_neg c1, if_neg c2, if_pos c3]
    rw [e]
    obtain ⟨e1, e2⟩ := later_v (secs := 3155759999) h1 h2 (by omega) (by omega)
    refine .inr (.inr ⟨by omega, rfl, e1, ?_⟩)
    rw [e2]
    generalize (lim - hi) * 86400 / mx = q at *
    have h5 : 3155759999 * mx ≤ q * mx := Int.mul_le_mul_of_nonneg_right (by omega) (by omega)
    have := ceil_le (a := mx * 3155759999) (b := 86400) (c := lim - hi) (by decide) (by rw [Int.mul_comm mx]; omega)
    omega
  · have e : fullV lo hi mn mx lim = ((lim - hi) * 86400 / mx + 1, 0) := by unfold fullV; rw [if_neg c0, if_neg c1, if_neg c2, if_neg c3]
    rw [e]
    generalize (lim - hi) * 86400 / mx = q at *
    obtain ⟨e1, e2⟩ := later_v (secs := q + 1) h1 h2 (by omega) (by omega)
    obtain ⟨e3, e4⟩ := later_v (secs := q) h1 h2 (by omega) (by omega)
    have e5 : q + 1 - 1 = q := by omega
    refine .inr (.inl ⟨by omega, rfl, e1, ?_, .inr ⟨?_, ?_, ?_, ?_⟩⟩)
    · show lim < laterHi lo hi mn mx (q + 1) 1073741824
      rw [e2]
      have := ceil_gt (a := mx * (q + 1)) (b := 86400) (c := lim - hi) (by decide) (by rw [Int.mul_comm mx]; omega)
      omega
    · show 1 ≤ q + 1
      omega
    · show q + 1 ≤ 3155759999
      omega
    · show laterE lo hi mn mx (q + 1 - 1) 1073741824 = 0
      rw [e5, e3]
    · show laterHi lo hi mn mx (q + 1 - 1) 1073741824 ≤ lim
      rw [e5, e4]
      have := ceil_le (a := mx * q) (b := 86400) (c := lim - hi) (by decide) (by rw [Int.mul_comm mx]; omega)
      omega
end Go.Proofs.Ytopdcngplcoejaa
