/- Plain arithmetic of levels and masses (for ContainerLevel, ContainerGrows). -/
import Derived.Test.YtabldmoifkgchaaCon
namespace Go.Proofs.Ytabldmoifkgchaa

theorem ceil_le {a b c : Int} (hb : 1 ≤ b) (h : a ≤ c * b) : (a + b - 1) / b ≤ c := by
  have : (a + b - 1) / b < c + 1 := Int.ediv_lt_of_lt_mul (by omega) (by
    have e : (c + 1) * b = c * b + b := by rw [Int.add_mul, Int.one_mul]
    omega)
  omega
theorem ceil_gt {a b c : Int} (hb : 1 ≤ b) (h : c * b < a) : c < (a + b - 1) / b := by
  have : c + 1 ≤ (a + b - 1) / b := (Int.le_ediv_iff_mul_le (by omega)).2 (by
    have e : (c + 1) * b = c * b + b := by rw [Int.add_mul, Int.one_mul]
    omega)
  omega
theorem lev_ok {g x : Int} (h1 : 1 ≤ g) (h2 : g ≤ 1073741824) (h3 : 0 ≤ x) (h4 : x ≤ 1073741824) : levV g x = min ((x * 1000 + g - 1) / g) 1000 ∧ levE g x = 0 := by
  have h : ¬ levB g x := by unfold levB; omega
  exact ⟨if_neg h, if_neg h⟩
theorem lev_bad {g x : Int} (h : levB g x) : levV g x = 0 ∧ levE g x = 1 := ⟨if_pos h, if_pos h⟩
theorem lev_ok' {g x : Int} (h : ¬ levB g x) : levE g x = 0 := if_neg h
theorem gra_ok {g x : Int} (h1 : 1 ≤ g) (h2 : g ≤ 1073741824) (h3 : 0 ≤ x) (h4 : x ≤ 1000) : graV g x = x * g / 1000 ∧ graE g x = 0 := by
  have h : ¬ graB g x := by unfold graB; omega
  exact ⟨if_neg h, if_neg h⟩
theorem gra_bad {g x : Int} (h : graB g x) : graV g x = 0 ∧ graE g x = 1 := ⟨if_pos h, if_pos h⟩

theorem level_law {g l : Int} (h : ¬ graB g l) : 1 ≤ g ∧ g ≤ 1073741824 ∧ 0 ≤ l ∧ l ≤ 1000 ∧ graE g l = 0 ∧ 0 ≤ graV g l ∧ graV g l ≤ g ∧ levE g (graV g l) = 0 ∧ levV g (graV g l) ≤ l ∧
    ((l = 1000 ∧ graV g l = g) ∨ (l < 1000 ∧ levE g (graV g l + 1) = 0 ∧ l < levV g (graV g l + 1))) := by
  have hb : 1 ≤ g ∧ g ≤ 1073741824 ∧ 0 ≤ l ∧ l ≤ 1000 := by unfold graB at h; omega
  obtain ⟨h1, h2, h3, h4⟩ := hb
  obtain ⟨e1, e2⟩ := gra_ok h1 h2 h3 h4
  have hp := prod_bd l g h3 h4 h1 h2
  have hle : l * g ≤ 1000 * g := Int.mul_le_mul_of_nonneg_right h4 (by omega)
  rw [e1, e2]
  generalize hm : l * g / 1000 = m
  have m0 : 0 ≤ m := by omega
  have m1 : m ≤ g := by omega
  obtain ⟨e3, e4⟩ := lev_ok h1 h2 m0 (by omega)
  refine ⟨h1, h2, h3, h4, rfl, m0, m1, e4, ?_, ?_⟩
  · rw [e3]
    have := ceil_le (a := m * 1000) (c := l) h1 (by omega)
    omega
  · by_cases hl : l = 1000
    · left
      subst hl
      exact ⟨rfl, by omega⟩
    · right
      have hlt : l * g ≤ 999 * g := Int.mul_le_mul_of_nonneg_right (by omega) (by omega)
      obtain ⟨e5, e6⟩ := lev_ok (x := m + 1) h1 h2 (by omega) (by omega)
      refine ⟨by omega, e6, ?_⟩
      rw [e5]
      have := ceil_gt (a := (m + 1) * 1000) (c := l) h1 (by omega)
      omega

theorem grows_law {g a b : Int} (hab : a ≤ b) (h : ¬ levB g a) (h' : ¬ levB g b) : levE g a = 0 ∧ levE g b = 0 ∧ 0 ≤ levV g a ∧ levV g a ≤ levV g b ∧ levV g b ≤ 1000 ∧ (0 < levV g a ↔ 0 < a) := by
  have hb : 1 ≤ g ∧ g ≤ 1073741824 ∧ 0 ≤ a ∧ b ≤ 1073741824 := by unfold levB at h h'; omega
  obtain ⟨h1, h2, h3, h4⟩ := hb
  obtain ⟨e1, e2⟩ := lev_ok h1 h2 h3 (show a ≤ 1073741824 by omega)
  obtain ⟨e3, e4⟩ := lev_ok h1 h2 (show 0 ≤ b by omega) h4
  rw [e1, e3]
  have h5 : (a * 1000 + g - 1) / g ≤ (b * 1000 + g - 1) / g := Int.ediv_le_ediv (by omega) (by omega)
  have h6 := div_bd (a * 1000 + g - 1) g (by omega) h1
  refine ⟨e2, e4, by omega, by omega, by omega, ?_⟩
  constructor
  · intro h7
    rcases Int.lt_or_le 0 a with h8 | h8
    · exact h8
    · have := ceil_le (a := a * 1000) (c := 0) h1 (by omega)
      omega
  · intro h7
    have := ceil_gt (a := a * 1000) (c := 0) h1 (by omega)
    omega
end Go.Proofs.Ytabldmoifkgchaa
