/- The contract of the reference's Level at every input. -/
import Derived.Test.YtopdcngplcoejaaRlevel
namespace Go.Proofs.Ytopdcngplcoejaa
open Go.RowKit

set_option maxRecDepth 100000 in
set_option maxHeartbeats 800000 in
theorem rlevel_out (em fu er dr raw days : Int) (w : World) (h : chkE em fu er dr ≠ 0 ∨ raw < 0 ∨ 100000 < raw ∨ days < 0 ∨ 36524 < days) :
    Calls Try.prog 12 #[.agg #[.int .i64 em, .int .i64 fu, .int .i64 er, .int .i64 dr], .int .i64 raw, .int .i64 days] w fun e w' =>
      e = .returned (.tuple #[.agg #[.int .i64 0, .int .i64 0], .int .i64 1]) ∧ Below w.heap.size w w' := by
  rcases chk_01 em fu er dr with hc | hc
  · have HC := Lib.hid hc
    have hh : raw < 0 ∨ (0 ≤ raw ∧ 100000 < raw) ∨ (0 ≤ raw ∧ raw ≤ 100000 ∧ days < 0) ∨ (0 ≤ raw ∧ raw ≤ 100000 ∧ 0 ≤ days ∧ 36524 < days) := by
      have := h.resolve_left (by rw [hc]; decide)
      omega
    clear h hc
    rcases hh with h1 | ⟨h1, h2⟩ | ⟨h1, h2, h3⟩ | ⟨h1, h2, h3, h4⟩
    all_goals
      go_enter Try.func12, Try.ntmps12
      go_wp2_with fail
      refine (rcheck_any _ _ _ _ _).mono ?_
      rw [HC.out]
      rintro e w1 ⟨rfl, rfl⟩
      go_wp2_with fail
      refine bodyPost_ret (v := .tuple #[.agg #[.int .i64 0, .int .i64 0], .int .i64 1]) (by simp [results, Try.results12, go_sem]) rfl ⟨rfl, ?_⟩
      go_grown
  · have HC := Lib.hid hc
    clear h hc
    go_enter Try.func12, Try.ntmps12
    go_wp2_with fail
    refine (rcheck_any _ _ _ _ _).mono ?_
    rw [HC.out]
    rintro e w1 ⟨rfl, rfl⟩
    go_wp2_with fail
    refine bodyPost_ret (v := .tuple #[.agg #[.int .i64 0, .int .i64 0], .int .i64 1]) (by simp [results, Try.results12, go_sem]) rfl ⟨rfl, ?_⟩
    go_grown
theorem rlevel_any (em fu er dr raw days : Int) (w : World) :
    Calls Try.prog 12 #[.agg #[.int .i64 em, .int .i64 fu, .int .i64 er, .int .i64 dr], .int .i64 raw, .int .i64 days] w fun e w' =>
      e = .returned (.tuple #[.agg #[.int .i64 (lvLo em fu er dr raw days), .int .i64 (lvHi em fu er dr raw days)], .int .i64 (lvE em fu er dr raw days)]) ∧ Below w.heap.size w w' := by
  by_cases h : chkE em fu er dr ≠ 0 ∨ raw < 0 ∨ 100000 < raw ∨ days < 0 ∨ 36524 < days
  · have hE : lvE em fu er dr raw days = 1 := if_pos h
    have e1 : lvLo em fu er dr raw days = 0 := if_neg (by rw [hE]; decide)
    have e2 : lvHi em fu er dr raw days = 0 := if_neg (by rw [hE]; decide)
    rw [hE, e1, e2]
    exact rlevel_out em fu er dr raw days w h
  · have hc : chkE em fu er dr = 0 := by
      rcases chk_01 em fu er dr with hc | hc
      · exact hc
      · exact absurd (.inl (by rw [hc]; decide)) h
    have h' : ¬ (raw < 0 ∨ 100000 < raw ∨ days < 0 ∨ 36524 < days) := fun x => h (.inr x)
    exact rlevel_in em fu er dr raw days w hc (by omega) (by omega) (by omega) (by omega)
end Go.Proofs.Ytopdcngplcoejaa
