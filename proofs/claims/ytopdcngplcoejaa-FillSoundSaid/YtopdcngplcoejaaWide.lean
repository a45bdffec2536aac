/- Plain arithmetic: the interval of levels does not shrink as the error or the days grow (for FillWider). -/
import Derived.Test.YtopdcngplcoejaaLevel
namespace Go.Proofs.Ytopdcngplcoejaa

theorem clamp_mono {x y fu em : Int} (h : x ≤ y) : min (max x fu) em ≤ min (max y fu) em := by omega
theorem lv_ok {em fu er dr raw days : Int} (h : lvE em fu er dr raw days = 0) : chkE em fu er dr = 0 ∧ 0 ≤ raw ∧ raw ≤ 100000 ∧ 0 ≤ days ∧ days ≤ 36524 ∧ raw - (er + dr * days) ≤ em ∧ fu ≤ raw + (er + dr * days) := by
  unfold lvE at h
  split at h
  · simp at h
  · split at h
    · simp at h
    · omega
theorem chk_in {em fu er dr : Int} (h : chkE em fu er dr = 0) : 0 ≤ fu ∧ fu < em ∧ em ≤ 10000 ∧ 0 ≤ er ∧ er ≤ 1000 ∧ 0 ≤ dr ∧ dr ≤ 100 := by
  unfold chkE at h
  split at h
  · simp at h
  · omega
theorem wider {em fu er dr raw days er' days' : Int} (h : lvE em fu er dr raw days = 0) (h1 : er ≤ er') (h2 : er' ≤ 1000) (h3 : days ≤ days') (h4 : days' ≤ 36524) :
    lvE em fu er' dr raw days' = 0 ∧ lvLo em fu er' dr raw days' ≤ lvLo em fu er dr raw days ∧ lvHi em fu er dr raw days ≤ lvHi em fu er' dr raw days' := by
  obtain ⟨hc, r0, r1, d0, d1, g1, g2⟩ := lv_ok h
  obtain ⟨c1, c2, c3, c4, c5, c6, c7⟩ := chk_in hc
  have hm : dr * days ≤ dr * days' := Int.mul_le_mul_of_nonneg_left h3 c6
  have hE : lvE em fu er' dr raw days' = 0 := by
    unfold lvE
    rw [if_neg (by rw [chk_ok (by omega)]; omega), if_neg (by omega)]
  refine ⟨hE, ?_, ?_⟩
  · unfold lvLo
    rw [if_pos hE, if_pos h]
    have hq := clamp_mono (fu := fu) (em := em) (show raw + (er + dr * days) ≤ raw + (er' + dr * days') by omega)
    exact Int.ediv_le_ediv (by omega) (by omega)
  · unfold lvHi
    rw [if_pos hE, if_pos h]
    have hq := clamp_mono (fu := fu) (em := em) (show raw - (er' + dr * days') ≤ raw - (er + dr * days) by omega)
    exact Int.ediv_le_ediv (by omega) (by omega)
end Go.Proofs.Ytopdcngplcoejaa
