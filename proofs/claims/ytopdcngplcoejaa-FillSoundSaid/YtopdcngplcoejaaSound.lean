/- Plain arithmetic of FillSound, and the contract of container.Level. -/
import Derived.Test.YtopdcngplcoejaaFill6
import Derived.Test.YtopdcngplcoejaaWide
namespace Go.Proofs.Ytopdcngplcoejaa
open Go.RowKit

theorem ceil_le' {a b c : Int} (hb : 1 ≤ b) (h : a ≤ c * b) : (a + b - 1) / b ≤ c := by
  have : (a + b - 1) / b < c + 1 := Int.ediv_lt_of_lt_mul (by omega) (by
    have e : (c + 1) * b = c * b + b := by rw [Int.add_mul, Int.one_mul]
    omega)
  omega
theorem ceil_ge {a b : Int} (hb : 1 ≤ b) : a ≤ (a + b - 1) / b * b := by
  have h1 := Int.lt_ediv_add_one_mul_self (a + b - 1) (show 0 < b by omega)
  have e : ((a + b - 1) / b + 1) * b = (a + b - 1) / b * b + b := by rw [Int.add_mul, Int.one_mul]
  omega
/-- the level's interval contains the true level -/
theorem sound {em fu er dr days d o raw : Int} (hc : chkE em fu er dr = 0) (h1 : 0 ≤ days) (h2 : days ≤ 36524) (hd0 : fu ≤ d) (hd1 : d ≤ em) (ho0 : 0 ≤ o) (ho1 : o ≤ 2 * (er + dr * days))
    (hr : raw = d - (er + dr * days) + o) (r0 : 0 ≤ raw) (r1 : raw ≤ 100000) :
    lvE em fu er dr raw days = 0 ∧ 0 ≤ lvLo em fu er dr raw days ∧ lvHi em fu er dr raw days ≤ 1000 ∧ lvLo em fu er dr raw days ≤ (em - d) * 1000 / (em - fu) ∧ (em - d) * 1000 / (em - fu) ≤ lvHi em fu er dr raw days ∧ (em - d) * 1000 ≤ lvHi em fu er dr raw days * (em - fu) := by
  obtain ⟨k1, k2, k3, k4, k5, k6, k7⟩ := chk_in hc
  have p0 : 0 ≤ dr * days := Int.mul_nonneg k6 h1
  generalize hE : er + dr * days = E at *
  have hlv : lvE em fu er dr raw days = 0 := by
    unfold lvE
    rw [hE, if_neg (by rw [hc]; omega), if_neg (by omega)]
  have e1 : lvLo em fu er dr raw days = (em - min (max (raw + E) fu) em) * 1000 / (em - fu) := by unfold lvLo; rw [if_pos hlv, hE]
  have e2 : lvHi em fu er dr raw days = ((em - min (max (raw - E) fu) em) * 1000 + (em - fu) - 1) / (em - fu) := by unfold lvHi; rw [if_pos hlv, hE]
  generalize hm1 : min (max (raw + E) fu) em = m1 at *
  generalize hm2 : min (max (raw - E) fu) em = m2 at *
  have m1d : d ≤ m1 := by omega
  have m1e : m1 ≤ em := by omega
  have m2d : m2 ≤ d := by omega
  have m2f : fu ≤ m2 := by omega
  have hw : 1 ≤ em - fu := by omega
  have g1 : (em - m2) * 1000 ≤ ((em - m2) * 1000 + (em - fu) - 1) / (em - fu) * (em - fu) := ceil_ge hw
  refine ⟨hlv, ?_, ?_, ?_, ?_, ?_⟩
  · rw [e1]; exact Int.ediv_nonneg (by omega) (by omega)
  · rw [e2]; exact ceil_le' hw (by omega)
  · rw [e1]; exact Int.ediv_le_ediv (by omega) (by omega)
  · rw [e2]
    have : (em - d) * 1000 / (em - fu) ≤ ((em - m2) * 1000 + (em - fu) - 1) / (em - fu) := Int.ediv_le_ediv (by omega) (by omega)
    exact this
  · rw [e2]
    omega

def clevB (g x : Int) : Prop := g < 1 ∨ 1073741824 < g ∨ x < 0 ∨ 1073741824 < x
instance (g x : Int) : Decidable (clevB g x) := by unfold clevB; infer_instance
def clevV (g x : Int) : Int := if clevB g x then 0 else min ((x * 1000 + g - 1) / g) 1000
def clevE (g x : Int) : Int := if clevB g x then 1 else 0
theorem ret2 {k k' : IntKind} {a b c d : Int} (h : a = b) (h' : c = d) : Ending.returned (.tuple #[.int k a, .int k' c]) = .returned (.tuple #[.int k b, .int k' d]) := by rw [h, h']
set_option maxHeartbeats 800000 in
theorem clevel_any (id : ByteArray) (kind lit gr node x : Int) (w : World) :
    Calls Try.prog 22 #[.agg #[.string id, .int .i64 kind, .int .i64 lit, .int .i64 gr, .int .i64 node], .int .i64 x] w fun e w' => e = .returned (.tuple #[.int .i64 (clevV gr x), .int .i64 (clevE gr x)]) ∧ Below w.heap.size w w' := by
  by_cases h : clevB gr x
  · have e1 : clevV gr x = 0 := if_pos h
    have e2 : clevE gr x = 1 := if_pos h
    simp only [e1, e2]
    have h' : gr < 1 ∨ 1073741824 < gr ∨ x < 0 ∨ 1073741824 < x := h
    clear h e1 e2
    go_enter Try.func22, Try.ntmps22
    go_wp2
    all_goals first | (exfalso; omega) | (go_ret2; exact ⟨rfl, by go_grown⟩)
  · have e1 : clevV gr x = _ := if_neg h
    have e2 : clevE gr x = _ := if_neg h
    simp only [e1, e2]
    have h' : ¬ (gr < 1 ∨ 1073741824 < gr ∨ x < 0 ∨ 1073741824 < x) := h
    have b1 : 1 ≤ gr := by omega
    have b2 : gr ≤ 1073741824 := by omega
    have b3 : 0 ≤ x := by omega
    have b4 : x ≤ 1073741824 := by omega
    clear h h' e1 e2
    have hq := div_bd (x * 1000 + gr - 1) gr (by omega) (by omega)
    have nz : (gr == 0) = false := by simp; omega
    go_enter Try.func22, Try.ntmps22
    go_wp2
    all_goals first | (exfalso; omega) | (go_ret2; exact ⟨ret2 (by omega) rfl, by go_grown⟩)

/-- what has a level in an interval has a mass in the interval of masses -/
theorem sound2 {g x lo hi : Int} (hE : clevE g x = 0) (hx : x ≤ g) (h1 : lo ≤ clevV g x) (h2 : clevV g x ≤ hi) (h3 : 0 ≤ lo) (h4 : hi ≤ 1000) : massE g lo hi = 0 ∧ massLo g lo hi ≤ x ∧ x ≤ massHi g lo hi := by
  have hb : ¬ clevB g x := by
    intro h
    unfold clevE at hE
    rw [if_pos h] at hE
    cases hE
  have hv : clevV g x = min ((x * 1000 + g - 1) / g) 1000 := if_neg hb
  unfold clevB at hb
  have b1 : 1 ≤ g := by omega
  have b2 : g ≤ 1073741824 := by omega
  have b3 : 0 ≤ x := by omega
  have hq := ceil_ge (a := x * 1000) b1
  have hle := ceil_le' (a := x * 1000) (b := g) (c := 1000) b1 (by omega)
  have hlt := Int.ediv_mul_le (x * 1000 + g - 1) (show g ≠ 0 by omega)
  rw [hv] at h1 h2
  generalize (x * 1000 + g - 1) / g = v at *
  have hmin : min v 1000 = v := by omega
  rw [hmin] at h1 h2
  have p1 : v * g ≤ hi * g := Int.mul_le_mul_of_nonneg_right h2 (by omega)
  have p2 : lo * g ≤ v * g := Int.mul_le_mul_of_nonneg_right h1 (by omega)
  have hM : ¬ massBad g lo hi := by unfold massBad; omega
  have hL : massL g lo ≤ x := by
    unfold massL
    split
    · have e : (lo - 1) * g = lo * g - g := by rw [Int.sub_mul, Int.one_mul]
      have : (lo - 1) * g / 1000 < x := Int.ediv_lt_of_lt_mul (by omega) (by omega)
      omega
    · exact b3
  have hH : x ≤ hi * g / 1000 := (Int.le_ediv_iff_mul_le (by omega)).2 (by omega)
  have hEm : massE g lo hi = 0 := by
    unfold massE
    rw [if_neg hM, if_neg (by omega)]
  refine ⟨hEm, ?_, ?_⟩
  · unfold massLo; rw [if_pos hEm]; exact hL
  · unfold massHi; rw [if_pos hEm]; exact hH
end Go.Proofs.Ytopdcngplcoejaa
