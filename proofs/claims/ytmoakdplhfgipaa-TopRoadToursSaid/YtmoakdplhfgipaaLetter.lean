/- Contracts of 'ident.letter' and of the reference's 'letter': each returns whether a byte is a letter, and leaves the world as it is. -/
import Derived.Test.YtmoakdplhfgipaaProg
import Derived.Test.YtmoakdplhfgipaaPlain
import Derived.WalkKit
import Derived.WalkSpells
import Derived.WalkLawsBesides
namespace Go.Proofs.Ytmoakdplhfgipaa
set_option maxRecDepth 20000
open Go.RowKit

theorem letB_true {c : Int} (h : 97 ≤ c ∧ c ≤ 122 ∨ 65 ≤ c ∧ c ≤ 90) : letB c = true := by simp [letB, h]
theorem letB_false {c : Int} (h : ¬ (97 ≤ c ∧ c ≤ 122 ∨ 65 ≤ c ∧ c ≤ 90)) : letB c = false := by simp only [letB, h, decide_false]
theorem ret_bool {a b : Bool} (h : a = b) : Ending.returned (.bool a) = .returned (.bool b) := by rw [h]

set_option maxHeartbeats 400000 in
theorem letter_any (c : Int) (w : World) :
    Calls Try.prog 64 #[.int .u8 c] w fun e w' => e = .returned (.bool (letB c)) ∧ w = w' := by
  by_cases h1 : 97 ≤ c <;> by_cases h2 : c ≤ 122 <;> by_cases h3 : 65 ≤ c <;> by_cases h4 : c ≤ 90 <;> first | (exfalso; omega) | skip
  all_goals (go_enter Try.func64, Try.ntmps64; go_wp2; go_ret; exact ⟨ret_bool (by first | exact (letB_true (by omega)).symm | exact (letB_false (by omega)).symm), rfl⟩)

set_option maxHeartbeats 400000 in
theorem rletter_any (c : Int) (w : World) :
    Calls Try.prog 58 #[.int .u8 c] w fun e w' => e = .returned (.bool (letB c)) ∧ w = w' := by
  by_cases h1 : 97 ≤ c <;> by_cases h2 : c ≤ 122 <;> by_cases h3 : 65 ≤ c <;> by_cases h4 : c ≤ 90 <;> first | (exfalso; omega) | skip
  all_goals (go_enter Try.func58, Try.ntmps58; go_wp2; go_ret; exact ⟨ret_bool (by first | exact (letB_true (by omega)).symm | exact (letB_false (by omega)).symm), rfl⟩)
end Go.Proofs.Ytmoakdplhfgipaa
