/- The contracts of Mass of package fill and of the reference, and of the reference's Grams. -/
import Derived.Test.YtopdcngplcoejaaFill5
namespace Go.Proofs.Ytopdcngplcoejaa
open Go.RowKit

def massBad (g lo hi : Int) : Prop := g < 1 ∨ 1073741824 < g ∨ lo < 0 ∨ hi < lo ∨ 1000 < hi
instance (g lo hi : Int) : Decidable (massBad g lo hi) := by unfold massBad; infer_instance
def massL (g lo : Int) : Int := if 0 < lo then (lo - 1) * g / 1000 + 1 else 0
def massE (g lo hi : Int) : Int := if massBad g lo hi then 1 else if hi * g / 1000 < massL g lo then 10 else 0
def massLo (g lo hi : Int) : Int := if massE g lo hi = 0 then massL g lo else 0
def massHi (g lo hi : Int) : Int := if massE g lo hi = 0 then hi * g / 1000 else 0

theorem prod_bd (x g : Int) (h0 : 0 ≤ x) (h1 : x ≤ 1000) (h2 : 1 ≤ g) (h3 : g ≤ 1073741824) : 0 ≤ x * g ∧ x * g ≤ 1073741824000 := by
  refine ⟨Int.mul_nonneg h0 (by omega), ?_⟩
  have := Int.mul_le_mul h1 h3 (by omega) (by omega)
  omega

set_option maxRecDepth 100000 in
set_option maxHeartbeats 800000 in
theorem rgrams_ok (id : ByteArray) (kind lit g node x : Int) (w : World) (h0 : 0 ≤ x) (h1 : x ≤ 1000) (h2 : 1 ≤ g) (h3 : g ≤ 1073741824) :
    Calls Try.prog 28 #[.agg #[.string id, .int .i64 kind, .int .i64 lit, .int .i64 g, .int .i64 node], .int .i64 x] w fun e w' => e = .returned (.tuple #[.int .i64 (x * g / 1000), .int .i64 0]) ∧ w' = w.alloc (.cells #[.string id, .int .i64 kind, .int .i64 lit, .int .i64 g, .int .i64 node] 33) := by
  obtain ⟨p0, p1⟩ := prod_bd x g h0 h1 h2 h3
  go_enter Try.func28, Try.ntmps28
  go_wp2
  go_ret2
  exact ⟨rfl, rfl⟩

set_option maxRecDepth 100000 in
set_option maxHeartbeats 800000 in
theorem mass_bad (id : ByteArray) (kind lit g node lo hi : Int) (w : World) (h : massBad g lo hi) :
    Calls Try.prog 16 #[.agg #[.string id, .int .i64 kind, .int .i64 lit, .int .i64 g, .int .i64 node], .agg #[.int .i64 lo, .int .i64 hi]] w fun e w' => e = .returned (.tuple #[.agg #[.int .i64 0, .int .i64 0], .int .i64 1]) ∧ Below w.heap.size w w' := by
  have hh : g < 1 ∨ (1 ≤ g ∧ 1073741824 < g) ∨ (1 ≤ g ∧ g ≤ 1073741824 ∧ lo < 0) ∨ (1 ≤ g ∧ g ≤ 1073741824 ∧ 0 ≤ lo ∧ hi < lo) ∨ (1 ≤ g ∧ g ≤ 1073741824 ∧ 0 ≤ lo ∧ lo ≤ hi ∧ 1000 < hi) := by
    unfold massBad at h; omega
  clear h
  rcases hh with h1 | ⟨h1, h2⟩ | ⟨h1, h2, h3⟩ | ⟨h1, h2, h3, h4⟩ | ⟨h1, h2, h3, h4, h5⟩
  all_goals
    go_enter Try.func16, Try.ntmps16
    go_wp2
    refine bodyPost_ret (v := .tuple #[.agg #[.int .i64 0, .int .i64 0], .int .i64 1]) (by simp [results, Try.results16, go_sem]) rfl ⟨rfl, ?_⟩
    go_grown

set_option maxRecDepth 100000 in
set_option maxHeartbeats 800000 in
theorem rmass_bad (id : ByteArray) (kind lit g node lo hi : Int) (w : World) (h : massBad g lo hi) :
    Calls Try.prog 17 #[.agg #[.string id, .int .i64 kind, .int .i64 lit, .int .i64 g, .int .i64 node], .agg #[.int .i64 lo, .int .i64 hi]] w fun e w' => e = .returned (.tuple #[.agg #[.int .i64 0, .int .i64 0], .int .i64 1]) ∧ Below w.heap.size w w' := by
  have hh : g < 1 ∨ (1 ≤ g ∧ 1073741824 < g) ∨ (1 ≤ g ∧ g ≤ 1073741824 ∧ lo < 0) ∨ (1 ≤ g ∧ g ≤ 1073741824 ∧ 0 ≤ lo ∧ hi < lo) ∨ (1 ≤ g ∧ g ≤ 1073741824 ∧ 0 ≤ lo ∧ lo ≤ hi ∧ 1000 < hi) := by
    unfold massBad at h; omega
  clear h
  rcases hh with h1 | ⟨h1, h2⟩ | ⟨h1, h2, h3⟩ | ⟨h1, h2, h3, h4⟩ | ⟨h1, h2, h3, h4, h5⟩
  all_goals
    go_enter Try.func17, Try.ntmps17
    go_wp2
    refine bodyPost_ret (v := .tuple #[.agg #[.int .i64 0, .int .i64 0], .int .i64 1]) (by simp [results, Try.results17, go_sem]) rfl ⟨rfl, ?_⟩
    go_grown
set_option maxRecDepth 100000 in
set_option maxHeartbeats 1600000 in
theorem mass_in (id : ByteArray) (kind lit g node lo hi : Int) (w : World) (h1 : 1 ≤ g) (h2 : g ≤ 1073741824) (h3 : 0 ≤ lo) (h4 : lo ≤ hi) (h5 : hi ≤ 1000) :
    Calls Try.prog 16 #[.agg #[.string id, .int .i64 kind, .int .i64 lit, .int .i64 g, .int .i64 node], .agg #[.int .i64 lo, .int .i64 hi]] w fun e w' => e = .returned (.tuple #[.agg #[.int .i64 (massLo g lo hi), .int .i64 (massHi g lo hi)], .int .i64 (massE g lo hi)]) ∧ Below w.heap.size w w' := by
  have hb : ¬ massBad g lo hi := by unfold massBad; omega
  obtain ⟨p0, p1⟩ := prod_bd hi g (by omega) h5 h1 h2
  by_cases g1 : 0 < lo
  · obtain ⟨p2, p3⟩ := prod_bd (lo - 1) g (by omega) (by omega) h1 h2
    have eL : massL g lo = (lo - 1) * g / 1000 + 1 := if_pos g1
    by_cases g2 : hi * g / 1000 < (lo - 1) * g / 1000 + 1
    · have hE : massE g lo hi = 10 := by unfold massE; rw [if_neg hb, eL, if_pos g2]
      have e1 : massLo g lo hi = 0 := if_neg (by rw [hE]; decide)
      have e2 : massHi g lo hi = 0 := if_neg (by rw [hE]; decide)
      rw [hE, e1, e2]
      clear hE e1 e2 hb eL
      go_enter Try.func16, Try.ntmps16
      go_wp2
      refine bodyPost_ret (v := .tuple #[.agg #[.int .i64 0, .int .i64 0], .int .i64 10]) (by simp [results, Try.results16, go_sem]) rfl ⟨rfl, ?_⟩
      go_grown
    · have hE : massE g lo hi = 0 := by unfold massE; rw [if_neg hb, eL, if_neg g2]
      have e1 : massLo g lo hi = ((lo - 1) * g / 1000 + 1) := (if_pos hE).trans eL
      have e2 : massHi g lo hi = (hi * g / 1000) := if_pos hE
      rw [hE, e1, e2]
      clear hE e1 e2 hb eL
      go_enter Try.func16, Try.ntmps16
      go_wp2
      refine bodyPost_ret (v := .tuple #[.agg #[.int .i64 ((lo - 1) * g / 1000 + 1), .int .i64 (hi * g / 1000)], .int .i64 0]) (by simp [results, Try.results16, go_sem]) rfl ⟨rfl, ?_⟩
      go_grown
  · have eL : massL g lo = 0 := if_neg g1
    obtain rfl : lo = 0 := by omega
    · have hE : massE g 0 hi = 0 := by unfold massE; rw [if_neg hb, eL, if_neg (by omega)]
      have e1 : massLo g 0 hi = 0 := (if_pos hE).trans eL
      have e2 : massHi g 0 hi = (hi * g / 1000) := if_pos hE
      rw [hE, e1, e2]
      clear hE e1 e2 hb eL
      go_enter Try.func16, Try.ntmps16
      go_wp2
      refine bodyPost_ret (v := .tuple #[.agg #[.int .i64 0, .int .i64 (hi * g / 1000)], .int .i64 0]) (by simp [results, Try.results16, go_sem]) rfl ⟨rfl, ?_⟩
      go_grown
theorem mass_any (id : ByteArray) (kind lit g node lo hi : Int) (w : World) :
    Calls Try.prog 16 #[.agg #[.string id, .int .i64 kind, .int .i64 lit, .int .i64 g, .int .i64 node], .agg #[.int .i64 lo, .int .i64 hi]] w fun e w' => e = .returned (.tuple #[.agg #[.int .i64 (massLo g lo hi), .int .i64 (massHi g lo hi)], .int .i64 (massE g lo hi)]) ∧ Below w.heap.size w w' := by
  by_cases h : massBad g lo hi
  · have hE : massE g lo hi = 1 := if_pos h
    have e1 : massLo g lo hi = 0 := if_neg (by rw [hE]; decide)
    have e2 : massHi g lo hi = 0 := if_neg (by rw [hE]; decide)
    rw [hE, e1, e2]
    exact mass_bad id kind lit g node lo hi w h
  · unfold massBad at h
    exact mass_in id kind lit g node lo hi w (by omega) (by omega) (by omega) (by omega) (by omega)
set_option maxRecDepth 100000 in
set_option maxHeartbeats 1600000 in
theorem rmass_in (id : ByteArray) (kind lit g node lo hi : Int) (w : World) (h1 : 1 ≤ g) (h2 : g ≤ 1073741824) (h3 : 0 ≤ lo) (h4 : lo ≤ hi) (h5 : hi ≤ 1000) :
    Calls Try.prog 17 #[.agg #[.string id, .int .i64 kind, .int .i64 lit, .int .i64 g, .int .i64 node], .agg #[.int .i64 lo, .int .i64 hi]] w fun e w' => e = .returned (.tuple #[.agg #[.int .i64 (massLo g lo hi), .int .i64 (massHi g lo hi)], .int .i64 (massE g lo hi)]) ∧ Below w.heap.size w w' := by
  have hb : ¬ massBad g lo hi := by unfold massBad; omega
  obtain ⟨p0, p1⟩ := prod_bd hi g (by omega) h5 h1 h2
  by_cases g1 : 0 < lo
  · obtain ⟨p2, p3⟩ := prod_bd (lo - 1) g (by omega) (by omega) h1 h2
    have eL : massL g lo = (lo - 1) * g / 1000 + 1 := if_pos g1
    by_cases g2 : hi * g / 1000 < (lo - 1) * g / 1000 + 1
    · have hE : massE g lo hi = 10 := by unfold massE; rw [if_neg hb, eL, if_pos g2]
      have e1 : massLo g lo hi = 0 := if_neg (by rw [hE]; decide)
      have e2 : massHi g lo hi = 0 := if_neg (by rw [hE]; decide)
      rw [hE, e1, e2]
      clear hE e1 e2 hb eL
      go_enter Try.func17, Try.ntmps17
      go_wp2_with fail
      refine (rgrams_ok _ _ _ _ _ _ _ (by omega) (by omega) (by omega) (by omega)).mono ?_
      rintro e w1 ⟨rfl, rfl⟩
      go_wp2_with fail
      refine (rgrams_ok _ _ _ _ _ _ _ (by omega) (by omega) (by omega) (by omega)).mono ?_
      rintro e w1 ⟨rfl, rfl⟩
      go_wp2
      refine bodyPost_ret (v := .tuple #[.agg #[.int .i64 0, .int .i64 0], .int .i64 10]) (by simp [results, Try.results17, go_sem]) rfl ⟨rfl, ?_⟩
      go_grown
    · have hE : massE g lo hi = 0 := by unfold massE; rw [if_neg hb, eL, if_neg g2]
      have e1 : massLo g lo hi = ((lo - 1) * g / 1000 + 1) := (if_pos hE).trans eL
      have e2 : massHi g lo hi = (hi * g / 1000) := if_pos hE
      rw [hE, e1, e2]
      clear hE e1 e2 hb eL
      go_enter Try.func17, Try.ntmps17
      go_wp2_with fail
      refine (rgrams_ok _ _ _ _ _ _ _ (by omega) (by omega) (by omega) (by omega)).mono ?_
      rintro e w1 ⟨rfl, rfl⟩
      go_wp2_with fail
      refine (rgrams_ok _ _ _ _ _ _ _ (by omega) (by omega) (by omega) (by omega)).mono ?_
      rintro e w1 ⟨rfl, rfl⟩
      go_wp2
      refine bodyPost_ret (v := .tuple #[.agg #[.int .i64 ((lo - 1) * g / 1000 + 1), .int .i64 (hi * g / 1000)], .int .i64 0]) (by simp [results, Try.results17, go_sem]) rfl ⟨rfl, ?_⟩
      go_grown
  · have eL : massL g lo = 0 := if_neg g1
    obtain rfl : lo = 0 := by omega
    · have hE : massE g 0 hi = 0 := by unfold massE; rw [if_neg hb, eL, if_neg (by omega)]
      have e1 : massLo g 0 hi = 0 := (if_pos hE).trans eL
      have e2 : massHi g 0 hi = (hi * g / 1000) := if_pos hE
      rw [hE, e1, e2]
      clear hE e1 e2 hb eL
      go_enter Try.func17, Try.ntmps17
      go_wp2_with fail
      refine (rgrams_ok _ _ _ _ _ _ _ (by omega) (by omega) (by omega) (by omega)).mono ?_
      rintro e w1 ⟨rfl, rfl⟩
      go_wp2
      refine bodyPost_ret (v := .tuple #[.agg #[.int .i64 0, .int .i64 (hi * g / 1000)], .int .i64 0]) (by simp [results, Try.results17, go_sem]) rfl ⟨rfl, ?_⟩
      go_grown
theorem rmass_any (id : ByteArray) (kind lit g node lo hi : Int) (w : World) :
    Calls Try.prog 17 #[.agg #[.string id, .int .i64 kind, .int .i64 lit, .int .i64 g, .int .i64 node], .agg #[.int .i64 lo, .int .i64 hi]] w fun e w' => e = .returned (.tuple #[.agg #[.int .i64 (massLo g lo hi), .int .i64 (massHi g lo hi)], .int .i64 (massE g lo hi)]) ∧ Below w.heap.size w w' := by
  by_cases h : massBad g lo hi
  · have hE : massE g lo hi = 1 := if_pos h
    have e1 : massLo g lo hi = 0 := if_neg (by rw [hE]; decide)
    have e2 : massHi g lo hi = 0 := if_neg (by rw [hE]; decide)
    rw [hE, e1, e2]
    exact rmass_bad id kind lit g node lo hi w h
  · unfold massBad at h
    exact rmass_in id kind lit g node lo hi w (by omega) (by omega) (by omega) (by omega) (by omega)
end Go.Proofs.Ytopdcngplcoejaa
