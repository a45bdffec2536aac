/- Contracts of the functions on one vehicle: fault, Carries, Kinds, of the program and of the reference. -/
import Derived.Test.YtmoakdplhfgipaaVehP
import Derived.Laws.BitsAllLaws
import Derived.Laws.BitsLemmas
namespace Go.Proofs.Ytmoakdplhfgipaa
set_option maxRecDepth 20000
open Go.RowKit

theorem pow_bd (m : Int) (h1 : 1 ≤ m) (h2 : m ≤ 16) : 2 ≤ (2 : Int) ^ m.toNat ∧ (2 : Int) ^ m.toNat ≤ 65536 := by
  obtain rfl | rfl | rfl | rfl | rfl | rfl | rfl | rfl | rfl | rfl | rfl | rfl | rfl | rfl | rfl | rfl : m = 1 ∨ m = 2 ∨ m = 3 ∨ m = 4 ∨ m = 5 ∨ m = 6 ∨ m = 7 ∨ m = 8 ∨ m = 9 ∨ m = 10 ∨ m = 11 ∨ m = 12 ∨ m = 13 ∨ m = 14 ∨ m = 15 ∨ m = 16 := by omega
  all_goals decide

set_option maxHeartbeats 1600000 in
theorem fault_any (v : Veh) (n m : Int) (w : World) (hs : v.id.size ≤ maxLen) (hm1 : 1 ≤ m) (hm2 : m ≤ 16) :
    Calls Try.prog 46 #[.agg v.vs, .int .i64 n, .int .i64 m] w fun e w' => e = .returned (.int .i64 (vehE v n m)) ∧ Below w.heap.size w w' := by
  obtain ⟨id, depot, fr, to_, gr, kinds⟩ := v
  simp only at hs
  have hp := pow_bd m hm1 hm2
  cases hv : validB id.data.toList
  · have HV := Lib.hid hv
    clear hv
    go_enter Try.func46, Try.ntmps46
    go_wp2_with (go_at_call 60; refine (valid_val HV.out _ hs).mono ?_; rintro e w' ⟨rfl, rfl⟩)
    go_ret
    exact ⟨ret_int (by unfold vehE; rw [if_pos HV.out]), by go_grown⟩
  · have HV := Lib.hid hv
    clear hv
    have hw : IntKind.i64.wrap (1 * 2 ^ m.toNat) = 2 ^ m.toNat := by rw [Int.one_mul]; exact IntWalk.i64_in _ (by omega)
    have hw2 : IntKind.i64.wrap (2 ^ m.toNat) = 2 ^ m.toNat := IntWalk.i64_in _ (by omega)
    have m0 : 0 ≤ m := by omega
    have m64 : m ≤ 64 := by omega
    have c0 := (Blk.new w 46 #[.string id, .int .i64 depot, .int .i64 fr, .int .i64 to_, .int .i64 gr, .int .i64 kinds]).cell 5
    simp at c0
    by_cases hk : kinds < 1
    · have hd : decide (kinds < 1) = true := by simpa using hk
      go_enter Try.func46, Try.ntmps46
      go_wp2_with (go_at_call 60; refine (valid_val HV.out _ hs).mono ?_; rintro e w' ⟨rfl, rfl⟩)
      all_goals first
        | (go_ret; refine ⟨ret_int ?_, by go_grown⟩; unfold vehE; rw [if_neg (by simp [HV.out])]; simp only; repeat (first | rw [if_pos (by omega)] | rw [if_neg (by omega)]))
        | (go_quiet (fail); go_wp2; go_ret; refine ⟨ret_int ?_, belowN (by go_grown) _⟩; unfold vehE; rw [if_neg (by simp [HV.out])]; simp only; repeat (first | rw [if_pos (by omega)] | rw [if_neg (by omega)]))
    have hd : decide (kinds < 1) = false := by simpa using hk
    by_cases hk2 : (2 : Int) ^ m.toNat ≤ kinds
    · have hd2 : decide ((2 : Int) ^ m.toNat ≤ kinds) = true := by simpa using hk2
      go_enter Try.func46, Try.ntmps46
      go_wp2_with (go_at_call 60; refine (valid_val HV.out _ hs).mono ?_; rintro e w' ⟨rfl, rfl⟩)
      all_goals first
        | (go_ret; refine ⟨ret_int ?_, by go_grown⟩; unfold vehE; rw [if_neg (by simp [HV.out])]; simp only; repeat (first | rw [if_pos (by omega)] | rw [if_neg (by omega)]))
        | (go_quiet (fail); go_wp2; go_ret; refine ⟨ret_int ?_, belowN (by go_grown) _⟩; unfold vehE; rw [if_neg (by simp [HV.out])]; simp only; repeat (first | rw [if_pos (by omega)] | rw [if_neg (by omega)]))
    · have hd2 : decide ((2 : Int) ^ m.toNat ≤ kinds) = false := by simpa using hk2
      go_enter Try.func46, Try.ntmps46
      go_wp2_with (go_at_call 60; refine (valid_val HV.out _ hs).mono ?_; rintro e w' ⟨rfl, rfl⟩)
      all_goals first
        | (go_ret; refine ⟨ret_int ?_, by go_grown⟩; unfold vehE; rw [if_neg (by simp [HV.out])]; simp only; repeat (first | rw [if_pos (by omega)] | rw [if_neg (by omega)]))
        | (go_quiet (fail); go_wp2; go_ret; refine ⟨ret_int ?_, belowN (by go_grown) _⟩; unfold vehE; rw [if_neg (by simp [HV.out])]; simp only; repeat (first | rw [if_pos (by omega)] | rw [if_neg (by omega)]))

set_option maxHeartbeats 1600000 in
theorem rfault_any (v : Veh) (n m : Int) (w : World) (hs : v.id.size ≤ maxLen) (hm1 : 1 ≤ m) (hm2 : m ≤ 16) :
    Calls Try.prog 19 #[.agg v.vs, .int .i64 n, .int .i64 m] w fun e w' => e = .returned (.int .i64 (vehE v n m)) ∧ Below w.heap.size w w' := by
  obtain ⟨id, depot, fr, to_, gr, kinds⟩ := v
  simp only at hs
  have hp := pow_bd m hm1 hm2
  cases hv : validB id.data.toList
  · have HV := Lib.hid hv
    clear hv
    go_enter Try.func19, Try.ntmps19
    go_wp2_with (go_at_call 41; refine (rvalid_val HV.out _ hs).mono ?_; rintro e w' ⟨rfl, rfl⟩)
    go_ret
    exact ⟨ret_int (by unfold vehE; rw [if_pos HV.out]), by go_grown⟩
  · have HV := Lib.hid hv
    clear hv
    have hw : IntKind.i64.wrap (1 * 2 ^ m.toNat) = 2 ^ m.toNat := by rw [Int.one_mul]; exact IntWalk.i64_in _ (by omega)
    have hw2 : IntKind.i64.wrap (2 ^ m.toNat) = 2 ^ m.toNat := IntWalk.i64_in _ (by omega)
    have m0 : 0 ≤ m := by omega
    have m64 : m ≤ 64 := by omega
    have c0 := (Blk.new w 46 #[.string id, .int .i64 depot, .int .i64 fr, .int .i64 to_, .int .i64 gr, .int .i64 kinds]).cell 5
    simp at c0
    by_cases hk : kinds < 1
    · have hd : decide (kinds < 1) = true := by simpa using hk
      go_enter Try.func19, Try.ntmps19
      go_wp2_with (go_at_call 41; refine (rvalid_val HV.out _ hs).mono ?_; rintro e w' ⟨rfl, rfl⟩)
      all_goals first
        | (go_ret; refine ⟨ret_int ?_, by go_grown⟩; unfold vehE; rw [if_neg (by simp [HV.out])]; simp only; repeat (first | rw [if_pos (by omega)] | rw [if_neg (by omega)]))
        | (go_quiet (fail); go_wp2; go_ret; refine ⟨ret_int ?_, belowN (by go_grown) _⟩; unfold vehE; rw [if_neg (by simp [HV.out])]; simp only; repeat (first | rw [if_pos (by omega)] | rw [if_neg (by omega)]))
    have hd : decide (kinds < 1) = false := by simpa using hk
    by_cases hk2 : (2 : Int) ^ m.toNat ≤ kinds
    · have hd2 : decide ((2 : Int) ^ m.toNat ≤ kinds) = true := by simpa using hk2
      go_enter Try.func19, Try.ntmps19
      go_wp2_with (go_at_call 41; refine (rvalid_val HV.out _ hs).mono ?_; rintro e w' ⟨rfl, rfl⟩)
      all_goals first
        | (go_ret; refine ⟨ret_int ?_, by go_grown⟩; unfold vehE; rw [if_neg (by simp [HV.out])]; simp only; repeat (first | rw [if_pos (by omega)] | rw [if_neg (by omega)]))
        | (go_quiet (fail); go_wp2; go_ret; refine ⟨ret_int ?_, belowN (by go_grown) _⟩; unfold vehE; rw [if_neg (by simp [HV.out])]; simp only; repeat (first | rw [if_pos (by omega)] | rw [if_neg (by omega)]))
    · have hd2 : decide ((2 : Int) ^ m.toNat ≤ kinds) = false := by simpa using hk2
      go_enter Try.func19, Try.ntmps19
      go_wp2_with (go_at_call 41; refine (rvalid_val HV.out _ hs).mono ?_; rintro e w' ⟨rfl, rfl⟩)
      all_goals first
        | (go_ret; refine ⟨ret_int ?_, by go_grown⟩; unfold vehE; rw [if_neg (by simp [HV.out])]; simp only; repeat (first | rw [if_pos (by omega)] | rw [if_neg (by omega)]))
        | (go_quiet (fail); go_wp2; go_ret; refine ⟨ret_int ?_, belowN (by go_grown) _⟩; unfold vehE; rw [if_neg (by simp [HV.out])]; simp only; repeat (first | rw [if_pos (by omega)] | rw [if_neg (by omega)]))

/-! ### Carries -/
theorem ofInt_mod (x : Int) : ((BitVec.ofInt 64 x).toNat : Int) = x % 18446744073709551616 := by
  rw [BitVec.toNat_ofInt]
  omega
theorem bits_and_one (y : Int) : bits .and .i64 y 1 = y % 2 := by
  show IntKind.i64.wrap ((BitVec.ofInt 64 y &&& BitVec.ofInt 64 1).toNat : Int) = _
  have h1 := ofInt_mod y
  have h2 : (BitVec.ofInt 64 y &&& BitVec.ofInt 64 1).toNat = (BitVec.ofInt 64 y).toNat % 2 := by
    rw [BitVec.toNat_and]
    have : (BitVec.ofInt 64 1).toNat = 1 := by decide
    rw [this, Nat.and_one_is_mod]
  rw [h2]
  have h3 : (((BitVec.ofInt 64 y).toNat % 2 : Nat) : Int) = y % 2 := by omega
  rw [h3]
  exact IntWalk.i64_in _ (by omega)
theorem pow16 (k : Int) (h0 : 0 ≤ k) (h1 : k < 16) (x : Int) : x % 18446744073709551616 / 2 ^ k.toNat % 2 = x / 2 ^ k.toNat % 2 ∧ 0 ≤ x % 18446744073709551616 / 2 ^ k.toNat := by
  obtain rfl | rfl | rfl | rfl | rfl | rfl | rfl | rfl | rfl | rfl | rfl | rfl | rfl | rfl | rfl | rfl : k = 0 ∨ k = 1 ∨ k = 2 ∨ k = 3 ∨ k = 4 ∨ k = 5 ∨ k = 6 ∨ k = 7 ∨ k = 8 ∨ k = 9 ∨ k = 10 ∨ k = 11 ∨ k = 12 ∨ k = 13 ∨ k = 14 ∨ k = 15 := by omega
  all_goals
    simp only [Int.toNat_zero, Int.toNat_one, Int.reduceToNat, Int.reducePow, Int.pow_zero, Int.pow_one]
    omega
set_option maxHeartbeats 800000 in
theorem carries_any (v : Veh) (k : Int) (w : World) :
    Calls Try.prog 50 #[.agg v.vs, .int .i64 k] w fun e w' => e = .returned (.bool (carB v.kinds k)) ∧ Below w.heap.size w w' := by
  obtain ⟨id, depot, fr, to_, gr, kinds⟩ := v
  by_cases h0 : k < 0
  · have e : carB kinds k = false := by unfold carB; rw [decide_eq_false (by omega)]; rfl
    simp only [e]
    go_enter Try.func50, Try.ntmps50
    go_wp2
    all_goals first | (exfalso; omega) | (go_ret; exact ⟨rfl, by go_grown⟩)
  by_cases h1 : 16 ≤ k
  · have e : carB kinds k = false := by unfold carB; rw [decide_eq_false (by omega)]; rfl
    simp only [e]
    go_enter Try.func50, Try.ntmps50
    go_wp2
    all_goals first | (exfalso; omega) | (go_ret; exact ⟨rfl, by go_grown⟩)
  have k0 : 0 ≤ k := by omega
  have k16 : k < 16 := by omega
  have k64 : k ≤ 64 := by omega
  have e : carB kinds k = decide (kinds / 2 ^ k.toNat % 2 = 1) := by unfold carB; rw [decide_eq_true (by omega)]; rfl
  simp only [e]
  clear e h0 h1
  have hb := bits_and_one (kinds / 2 ^ k.toNat)
  obtain ⟨y, hy⟩ : ∃ y, kinds / 2 ^ k.toNat % 2 = y := ⟨_, rfl⟩
  rw [hy] at hb ⊢
  have HY := Lib.hid hy
  clear hy
  by_cases h : y = 1
  · subst h
    go_enter Try.func50, Try.ntmps50
    go_wp2
    all_goals first | (exfalso; omega) | (go_ret; exact ⟨rfl, by go_grown⟩)
  · have hq : (y == 1) = false := by simpa using h
    go_enter Try.func50, Try.ntmps50
    go_wp2
    all_goals first | (exfalso; omega) | (go_ret; exact ⟨ret_bool (by simp [h]), by go_grown⟩)
end Go.Proofs.Ytmoakdplhfgipaa
