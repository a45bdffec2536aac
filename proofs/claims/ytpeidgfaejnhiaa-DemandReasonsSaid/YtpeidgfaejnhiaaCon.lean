/- Contracts of the functions on one container: check, Level, Grams, of the program and of the reference. -/
import Derived.Test.YtpeidgfaejnhiaaConP
namespace Go.Proofs.Ytpeidgfaejnhiaa
open Go.RowKit

theorem ret_int {k : IntKind} {a b : Int} (h : a = b) : Ending.returned (.int k a) = .returned (.int k b) := by rw [h]
set_option maxHeartbeats 800000 in
theorem con_any (c : Con) (m n : Int) (w : World) (hs : c.id.size ≤ maxLen) :
    Calls Try.prog 53 #[.agg c.vs, .int .i64 m, .int .i64 n] w fun e w' => e = .returned (.int .i64 (conE c m n)) ∧ w' = w.alloc (.cells c.vs 49) := by
  obtain ⟨id, kind, lit, gr, node⟩ := c
  simp only at hs
  cases hv : validB id.data.toList
  · have HV := Lib.hid hv
    clear hv
    go_enter Try.func53, Try.ntmps53
    go_wp2_with (go_at_call 60; refine (valid_val HV.out _ hs).mono ?_; rintro e w' ⟨rfl, rfl⟩)
    go_ret
    exact ⟨ret_int (by unfold conE; rw [if_pos HV.out]), rfl⟩
  · have HV := Lib.hid hv
    clear hv
    go_enter Try.func53, Try.ntmps53
    go_wp2_with (go_at_call 60; refine (valid_val HV.out _ hs).mono ?_; rintro e w' ⟨rfl, rfl⟩)
    all_goals
      go_ret
      refine ⟨ret_int ?_, rfl⟩
      unfold conE
      rw [if_neg (by simp [HV.out])]
      simp only
      repeat (first | rw [if_pos (by omega)] | rw [if_neg (by omega)])
/-- Level's level and errno -/
def levB (g x : Int) : Prop := g < 1 ∨ 1073741824 < g ∨ x < 0 ∨ 1073741824 < x
instance (g x : Int) : Decidable (levB g x) := by unfold levB; infer_instance
def levV (g x : Int) : Int := if levB g x then 0 else min ((x * 1000 + g - 1) / g) 1000
def levE (g x : Int) : Int := if levB g x then 1 else 0
def graB (g x : Int) : Prop := g < 1 ∨ 1073741824 < g ∨ x < 0 ∨ 1000 < x
instance (g x : Int) : Decidable (graB g x) := by unfold graB; infer_instance
def graV (g x : Int) : Int := if graB g x then 0 else x * g / 1000
def graE (g x : Int) : Int := if graB g x then 1 else 0
theorem div_bd (a b : Int) (ha : 0 ≤ a) (hb : 1 ≤ b) : 0 ≤ a / b ∧ a / b ≤ a :=
  ⟨Int.ediv_nonneg ha (by omega), Int.ediv_le_self _ ha⟩
theorem prod_bd (x g : Int) (h0 : 0 ≤ x) (h1 : x ≤ 1000) (h2 : 1 ≤ g) (h3 : g ≤ 1073741824) : 0 ≤ x * g ∧ x * g ≤ 1073741824000 := by
  refine ⟨Int.mul_nonneg h0 (by omega), ?_⟩
  have := Int.mul_le_mul h1 h3 (by omega) (by omega)
  omega
theorem ret2 {k k' : IntKind} {a b c d : Int} (h : a = b) (h' : c = d) : Ending.returned (.tuple #[.int k a, .int k' c]) = .returned (.tuple #[.int k b, .int k' d]) := by rw [h, h']

set_option maxHeartbeats 800000 in
theorem level_any (c : Con) (x : Int) (w : World) :
    Calls Try.prog 19 #[.agg c.vs, .int .i64 x] w fun e w' => e = .returned (.tuple #[.int .i64 (levV c.gr x), .int .i64 (levE c.gr x)]) ∧ w' = w.alloc (.cells c.vs 49) := by
  obtain ⟨id, kind, lit, gr, node⟩ := c
  by_cases h : levB gr x
  · have e1 : levV gr x = 0 := if_pos h
    have e2 : levE gr x = 1 := if_pos h
    simp only [e1, e2]
    have h' : gr < 1 ∨ 1073741824 < gr ∨ x < 0 ∨ 1073741824 < x := h
    clear h e1 e2
    go_enter Try.func19, Try.ntmps19
    go_wp2
    all_goals first | (exfalso; omega) | (go_ret2; exact ⟨rfl, rfl⟩)
  · have e1 : levV gr x = _ := if_neg h
    have e2 : levE gr x = _ := if_neg h
    simp only [e1, e2]
    have h' : ¬ (gr < 1 ∨ 1073741824 < gr ∨ x < 0 ∨ 1073741824 < x) := h
    have b1 : 1 ≤ gr := by omega
    have b2 : gr ≤ 1073741824 := by omega
    have b3 : 0 ≤ x := by omega
    have b4 : x ≤ 1073741824 := by omega
    clear h h' e1 e2
    have hq := div_bd (x * 1000 + gr - 1) gr (by omega) (by omega)
    have nz : (gr == 0) = false := by simp; omega
    go_enter Try.func19, Try.ntmps19
    go_wp2
    all_goals first | (exfalso; omega) | (go_ret2; exact ⟨ret2 (by omega) rfl, rfl⟩)

end Go.Proofs.Ytpeidgfaejnhiaa
