/- The contracts of package fill's and the reference's functions on sensors: Check, up. -/
import Derived.Test.YtopdcngplcoejaaBase
namespace Go.Proofs.Ytopdcngplcoejaa
open Go.RowKit

/-- the error of a sensor -/
def chkE (em fu er dr : Int) : Int := if fu < 0 ∨ em ≤ fu ∨ 10000 < em ∨ er < 0 ∨ 1000 < er ∨ dr < 0 ∨ 100 < dr then 1 else 0
theorem chk_bad {em fu er dr : Int} (h : fu < 0 ∨ em ≤ fu ∨ 10000 < em ∨ er < 0 ∨ 1000 < er ∨ dr < 0 ∨ 100 < dr) : chkE em fu er dr = 1 := if_pos h
theorem chk_ok {em fu er dr : Int} (h : ¬ (fu < 0 ∨ em ≤ fu ∨ 10000 < em ∨ er < 0 ∨ 1000 < er ∨ dr < 0 ∨ 100 < dr)) : chkE em fu er dr = 0 := if_neg h
theorem ret_int {k : IntKind} {a b : Int} (h : a = b) : Ending.returned (.int k a) = .returned (.int k b) := by rw [h]

set_option maxHeartbeats 800000 in
theorem check_any (em fu er dr : Int) (w : World) :
    Calls Try.prog 13 #[.agg #[.int .i64 em, .int .i64 fu, .int .i64 er, .int .i64 dr]] w fun e w' => e = .returned (.int .i64 (chkE em fu er dr)) ∧ w' = w.alloc (.cells #[.int .i64 em, .int .i64 fu, .int .i64 er, .int .i64 dr] 23) := by
  by_cases h1 : fu < 0
  · go_enter Try.func13, Try.ntmps13
    go_wp2
    go_ret
    exact ⟨ret_int (chk_bad (by omega)).symm, rfl⟩
  by_cases h2 : em ≤ fu
  · go_enter Try.func13, Try.ntmps13
    go_wp2
    go_ret
    exact ⟨ret_int (chk_bad (by omega)).symm, rfl⟩
  by_cases h3 : 10000 < em
  · go_enter Try.func13, Try.ntmps13
    go_wp2
    go_ret
    exact ⟨ret_int (chk_bad (by omega)).symm, rfl⟩
  by_cases h4 : er < 0
  · go_enter Try.func13, Try.ntmps13
    go_wp2
    go_ret
    exact ⟨ret_int (chk_bad (by omega)).symm, rfl⟩
  by_cases h5 : 1000 < er
  · go_enter Try.func13, Try.ntmps13
    go_wp2
    go_ret
    exact ⟨ret_int (chk_bad (by omega)).symm, rfl⟩
  by_cases h6 : dr < 0
  · go_enter Try.func13, Try.ntmps13
    go_wp2
    go_ret
    exact ⟨ret_int (chk_bad (by omega)).symm, rfl⟩
  by_cases h7 : 100 < dr
  · go_enter Try.func13, Try.ntmps13
    go_wp2
    go_ret
    exact ⟨ret_int (chk_bad (by omega)).symm, rfl⟩
  · go_enter Try.func13, Try.ntmps13
    go_wp2
    go_ret
    exact ⟨ret_int (chk_ok (by omega)).symm, rfl⟩

set_option maxHeartbeats 800000 in
theorem rcheck_any (em fu er dr : Int) (w : World) :
    Calls Try.prog 14 #[.agg #[.int .i64 em, .int .i64 fu, .int .i64 er, .int .i64 dr]] w fun e w' => e = .returned (.int .i64 (chkE em fu er dr)) ∧ w' = w.alloc (.cells #[.int .i64 em, .int .i64 fu, .int .i64 er, .int .i64 dr] 23) := by
  by_cases h1 : fu < 0
  · go_enter Try.func14, Try.ntmps14
    go_wp2
    go_ret
    exact ⟨ret_int (chk_bad (by omega)).symm, rfl⟩
  by_cases h2 : em ≤ fu
  · go_enter Try.func14, Try.ntmps14
    go_wp2
    go_ret
    exact ⟨ret_int (chk_bad (by omega)).symm, rfl⟩
  by_cases h3 : 10000 < em
  · go_enter Try.func14, Try.ntmps14
    go_wp2
    go_ret
    exact ⟨ret_int (chk_bad (by omega)).symm, rfl⟩
  by_cases h4 : er < 0
  · go_enter Try.func14, Try.ntmps14
    go_wp2
    go_ret
    exact ⟨ret_int (chk_bad (by omega)).symm, rfl⟩
  by_cases h5 : 1000 < er
  · go_enter Try.func14, Try.ntmps14
    go_wp2
    go_ret
    exact ⟨ret_int (chk_bad (by omega)).symm, rfl⟩
  by_cases h6 : dr < 0
  · go_enter Try.func14, Try.ntmps14
    go_wp2
    go_ret
    exact ⟨ret_int (chk_bad (by omega)).symm, rfl⟩
  by_cases h7 : 100 < dr
  · go_enter Try.func14, Try.ntmps14
    go_wp2
    go_ret
    exact ⟨ret_int (chk_bad (by omega)).symm, rfl⟩
  · go_enter Try.func14, Try.ntmps14
    go_wp2
    go_ret
    exact ⟨ret_int (chk_ok (by omega)).symm, rfl⟩
end Go.Proofs.Ytopdcngplcoejaa
