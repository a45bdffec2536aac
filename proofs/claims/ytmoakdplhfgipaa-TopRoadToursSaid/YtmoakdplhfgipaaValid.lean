/- Contracts of 'ident.Valid' and of the reference's 'Valid': each returns whether a string is an identifier, and leaves the world as it is. -/
import Derived.Test.YtmoakdplhfgipaaLetter
namespace Go.Proofs.Ytmoakdplhfgipaa
set_option maxRecDepth 20000
open Go.RowKit

theorem letter_val {c : Int} {b : Bool} (h : letB c = b) (w : World) :
    Calls Try.prog 64 #[.int .u8 c] w fun e w' => e = .returned (.bool b) ∧ w = w' := h ▸ letter_any c w
theorem rletter_val {c : Int} {b : Bool} (h : letB c = b) (w : World) :
    Calls Try.prog 58 #[.int .u8 c] w fun e w' => e = .returned (.bool b) ∧ w = w' := h ▸ rletter_any c w

theorem size_list (s : ByteArray) : s.data.toList.length = s.size := Array.length_toList

theorem chrB_yes {c : Int} (h : letB c = true ∨ 48 ≤ c ∧ c ≤ 57 ∨ c = 45 ∨ c = 95 ∨ c = 46) : chrB c = true := by
  rcases h with h | h
  · simp [chrB, h]
  · simp [chrB, h]
theorem chrB_no {c : Int} (h0 : letB c = false) (h : ¬ (48 ≤ c ∧ c ≤ 57 ∨ c = 45 ∨ c = 95 ∨ c = 46)) : chrB c = false := by
  simp only [chrB, h0, h, decide_false, Bool.or_false]

set_option maxHeartbeats 400000 in
theorem valid_any (s : ByteArray) (w : World) (hs : s.size ≤ maxLen) :
    Calls Try.prog 60 #[.string s] w fun e w' => e = .returned (.bool (validB s.data.toList)) ∧ w = w' := by
  unfold maxLen at hs
  by_cases h0 : s.size < 1
  · go_enter Try.func60, Try.ntmps60
    go_wp2
    go_ret
    refine ⟨ret_bool ?_, rfl⟩
    have : s.data.toList = [] := List.eq_nil_of_length_eq_zero (by rw [size_list]; omega)
    rw [this]; rfl
  by_cases h32 : 32 < s.size
  · go_enter Try.func60, Try.ntmps60
    go_wp2
    go_ret
    exact ⟨ret_bool (validB_long _ (by rw [size_list]; exact h32)).symm, rfl⟩
  have hp : 0 < s.size := by omega
  cases hl : letB (s[0].toNat : Int)
  · have HL := Lib.hid hl; clear hl
    go_enter Try.func60, Try.ntmps60
    go_wp2_with (go_at_call 64; refine (letter_val HL.out _).mono ?_; rintro e w' ⟨rfl, rfl⟩)
    go_ret
    exact ⟨ret_bool (validB_head _ (by rw [size_list]; exact hp) HL.out).symm, rfl⟩
  · have HL := Lib.hid hl; clear hl
    have HV := Lib.hid (validB_all s.data.toList (by rw [size_list]; exact hp) (by rw [size_list]; omega) HL.out)
    go_enter Try.func60, Try.ntmps60
    go_wp2_with (go_at_call 64; refine (letter_val HL.out _).mono ?_; rintro e w' ⟨rfl, rfl⟩)
    go_loop [3] (fun i => ∃ k : Nat, 1 ≤ k ∧ k ≤ s.size ∧ i = .int .i64 k ∧ chrAll (s.data.toList.take k) = true) (fun i => s.size - (intOf i).toNat)
    case atStart => exact ⟨1, Nat.le_refl _, by omega, rfl, chrAll_one _ (by rw [size_list]; exact hp) HL.out⟩
    case round =>
      obtain ⟨k, hk1, hk, rfl, hall⟩ := hrel
      have HA := Lib.hid hall; clear hall
      by_cases hlt : k < s.size
      · have HS : Hid (chrAll (s.data.toList.take (k + 1)) = (chrAll (s.data.toList.take k) && chrB (s[k].toNat : Int))) := Lib.hid (chrAll_take_succ s.data.toList k (by rw [size_list]; exact hlt))
        by_cases hc : letB (s[k].toNat : Int) = true ∨ 48 ≤ (s[k].toNat : Int) ∧ (s[k].toNat : Int) ≤ 57 ∨ (s[k].toNat : Int) = 45 ∨ (s[k].toNat : Int) = 95 ∨ (s[k].toNat : Int) = 46
        · have HC := Lib.hid (chrB_yes hc)
          cases hl : letB (s[k].toNat : Int)
          · have HL2 := Lib.hid hl
            replace hc := hc.resolve_left (by rw [hl]; simp)
            clear hl
            by_cases h1 : (s[k].toNat : Int) < 48
            · by_cases h2 : (s[k].toNat : Int) = 45
              · have e1 : ((s[k].toNat : Int) != 45) = false := by rw [h2]; rfl
                clear h2 hc
                go_wp2_with (go_at_call 64; refine (letter_val HL2.out _).mono ?_; rintro e w' ⟨rfl, rfl⟩)
                go_round
                case rel => exact ⟨k + 1, by omega, by omega, by go_num, by rw [HS.out, HA.out]; exact HC.out⟩
                case measure => simp [intOf]; omega
              · have h3 : (s[k].toNat : Int) = 46 := by omega
                have e1 : ((s[k].toNat : Int) != 45) = true := by rw [h3]; rfl
                have e2 : ((s[k].toNat : Int) != 95) = true := by rw [h3]; rfl
                have e3 : ((s[k].toNat : Int) != 46) = false := by rw [h3]; rfl
                clear h2 h3 hc
                go_wp2_with (go_at_call 64; refine (letter_val HL2.out _).mono ?_; rintro e w' ⟨rfl, rfl⟩)
                go_round
                case rel => exact ⟨k + 1, by omega, by omega, by go_num, by rw [HS.out, HA.out]; exact HC.out⟩
                case measure => simp [intOf]; omega
            · by_cases h2 : (57 : Int) < (s[k].toNat : Int)
              · have h3 : (s[k].toNat : Int) = 95 := by omega
                have e1 : ((s[k].toNat : Int) != 45) = true := by rw [h3]; rfl
                have e2 : ((s[k].toNat : Int) != 95) = false := by rw [h3]; rfl
                clear h3 hc
                go_wp2_with (go_at_call 64; refine (letter_val HL2.out _).mono ?_; rintro e w' ⟨rfl, rfl⟩)
                go_round
                case rel => exact ⟨k + 1, by omega, by omega, by go_num, by rw [HS.out, HA.out]; exact HC.out⟩
                case measure => simp [intOf]; omega
              · clear hc
                go_wp2_with (go_at_call 64; refine (letter_val HL2.out _).mono ?_; rintro e w' ⟨rfl, rfl⟩)
                go_round
                case rel => exact ⟨k + 1, by omega, by omega, by go_num, by rw [HS.out, HA.out]; exact HC.out⟩
                case measure => simp [intOf]; omega
          · have HL2 := Lib.hid hl; clear hl hc
            go_wp2_with (go_at_call 64; refine (letter_val HL2.out _).mono ?_; rintro e w' ⟨rfl, rfl⟩)
            go_round
            case rel => exact ⟨k + 1, by omega, by omega, by go_num, by rw [HS.out, HA.out]; exact HC.out⟩
            case measure => simp [intOf]; omega
        · have hl : letB (s[k].toNat : Int) = false := by
            cases h : letB (s[k].toNat : Int)
            · rfl
            · exact absurd (.inl h) hc
          have hc2 : ¬ (48 ≤ (s[k].toNat : Int) ∧ (s[k].toNat : Int) ≤ 57 ∨ (s[k].toNat : Int) = 45 ∨ (s[k].toNat : Int) = 95 ∨ (s[k].toNat : Int) = 46) := fun h => hc (.inr h)
          have HC := Lib.hid (chrB_no hl hc2)
          have HL2 := Lib.hid hl
          clear hl hc
          have e1 : ((s[k].toNat : Int) != 45) = true := by rw [bne_iff_ne]; omega
          have e2 : ((s[k].toNat : Int) != 95) = true := by rw [bne_iff_ne]; omega
          have e3 : ((s[k].toNat : Int) != 46) = true := by rw [bne_iff_ne]; omega
          by_cases h1 : (s[k].toNat : Int) < 48
          · clear hc2
            go_wp2_with (go_at_call 64; refine (letter_val HL2.out _).mono ?_; rintro e w' ⟨rfl, rfl⟩)
            go_ret
            exact ⟨ret_bool (by rw [HV.out, chrAll_false_of_take _ (k + 1)]; rw [HS.out, HC.out, Bool.and_false]), rfl⟩
          · have h2 : (57 : Int) < (s[k].toNat : Int) := by omega
            clear hc2
            go_wp2_with (go_at_call 64; refine (letter_val HL2.out _).mono ?_; rintro e w' ⟨rfl, rfl⟩)
            go_ret
            exact ⟨ret_bool (by rw [HV.out, chrAll_false_of_take _ (k + 1)]; rw [HS.out, HC.out, Bool.and_false]), rfl⟩
      · go_wp2
        go_ret
        exact ⟨ret_bool (by rw [HV.out, ← HA.out, List.take_of_length_le (by rw [size_list]; omega)]), rfl⟩

set_option maxHeartbeats 400000 in
theorem rvalid_any (s : ByteArray) (w : World) (hs : s.size ≤ maxLen) :
    Calls Try.prog 41 #[.string s] w fun e w' => e = .returned (.bool (validB s.data.toList)) ∧ w = w' := by
  unfold maxLen at hs
  by_cases h0 : s.size < 1
  · go_enter Try.func41, Try.ntmps41
    go_wp2
    go_ret
    refine ⟨ret_bool ?_, rfl⟩
    have : s.data.toList = [] := List.eq_nil_of_length_eq_zero (by rw [size_list]; omega)
    rw [this]; rfl
  by_cases h32 : 32 < s.size
  · go_enter Try.func41, Try.ntmps41
    go_wp2
    go_ret
    exact ⟨ret_bool (validB_long _ (by rw [size_list]; exact h32)).symm, rfl⟩
  have hp : 0 < s.size := by omega
  cases hl : letB (s[0].toNat : Int)
  · have HL := Lib.hid hl; clear hl
    go_enter Try.func41, Try.ntmps41
    go_wp2_with (go_at_call 58; refine (rletter_val HL.out _).mono ?_; rintro e w' ⟨rfl, rfl⟩)
    go_ret
    exact ⟨ret_bool (validB_head _ (by rw [size_list]; exact hp) HL.out).symm, rfl⟩
  · have HL := Lib.hid hl; clear hl
    have HV := Lib.hid (validB_all s.data.toList (by rw [size_list]; exact hp) (by rw [size_list]; omega) HL.out)
    go_enter Try.func41, Try.ntmps41
    go_wp2_with (go_at_call 58; refine (rletter_val HL.out _).mono ?_; rintro e w' ⟨rfl, rfl⟩)
    go_loop [3] (fun i => ∃ k : Nat, 0 ≤ k ∧ k ≤ s.size ∧ i = .int .i64 k ∧ chrAll (s.data.toList.take k) = true) (fun i => s.size - (intOf i).toNat)
    case atStart => exact ⟨0, Nat.le_refl _, by omega, rfl, rfl⟩
    case round =>
      obtain ⟨k, hk1, hk, rfl, hall⟩ := hrel
      have HA := Lib.hid hall; clear hall
      by_cases hlt : k < s.size
      · have HS : Hid (chrAll (s.data.toList.take (k + 1)) = (chrAll (s.data.toList.take k) && chrB (s[k].toNat : Int))) := Lib.hid (chrAll_take_succ s.data.toList k (by rw [size_list]; exact hlt))
        by_cases hc : letB (s[k].toNat : Int) = true ∨ 48 ≤ (s[k].toNat : Int) ∧ (s[k].toNat : Int) ≤ 57 ∨ (s[k].toNat : Int) = 45 ∨ (s[k].toNat : Int) = 95 ∨ (s[k].toNat : Int) = 46
        · have HC := Lib.hid (chrB_yes hc)
          cases hl : letB (s[k].toNat : Int)
          · have HL2 := Lib.hid hl
            replace hc := hc.resolve_left (by rw [hl]; simp)
            clear hl
            by_cases h1 : (s[k].toNat : Int) < 48
            · by_cases h2 : (s[k].toNat : Int) = 45
              · have e1 : ((s[k].toNat : Int) != 45) = false := by rw [h2]; rfl
                clear h2 hc
                go_wp2_with (go_at_call 58; refine (rletter_val HL2.out _).mono ?_; rintro e w' ⟨rfl, rfl⟩)
                go_round
                case rel => exact ⟨k + 1, by omega, by omega, by go_num, by rw [HS.out, HA.out]; exact HC.out⟩
                case measure => simp [intOf]; omega
              · have h3 : (s[k].toNat : Int) = 46 := by omega
                have e1 : ((s[k].toNat : Int) != 45) = true := by rw [h3]; rfl
                have e2 : ((s[k].toNat : Int) != 95) = true := by rw [h3]; rfl
                have e3 : ((s[k].toNat : Int) != 46) = false := by rw [h3]; rfl
                clear h2 h3 hc
                go_wp2_with (go_at_call 58; refine (rletter_val HL2.out _).mono ?_; rintro e w' ⟨rfl, rfl⟩)
                go_round
                case rel => exact ⟨k + 1, by omega, by omega, by go_num, by rw [HS.out, HA.out]; exact HC.out⟩
                case measure => simp [intOf]; omega
            · by_cases h2 : (57 : Int) < (s[k].toNat : Int)
              · have h3 : (s[k].toNat : Int) = 95 := by omega
                have e1 : ((s[k].toNat : Int) != 45) = true := by rw [h3]; rfl
                have e2 : ((s[k].toNat : Int) != 95) = false := by rw [h3]; rfl
                clear h3 hc
                go_wp2_with (go_at_call 58; refine (rletter_val HL2.out _).mono ?_; rintro e w' ⟨rfl, rfl⟩)
                go_round
                case rel => exact ⟨k + 1, by omega, by omega, by go_num, by rw [HS.out, HA.out]; exact HC.out⟩
                case measure => simp [intOf]; omega
              · clear hc
                go_wp2_with (go_at_call 58; refine (rletter_val HL2.out _).mono ?_; rintro e w' ⟨rfl, rfl⟩)
                go_round
                case rel => exact ⟨k + 1, by omega, by omega, by go_num, by rw [HS.out, HA.out]; exact HC.out⟩
                case measure => simp [intOf]; omega
          · have HL2 := Lib.hid hl; clear hl hc
            go_wp2_with (go_at_call 58; refine (rletter_val HL2.out _).mono ?_; rintro e w' ⟨rfl, rfl⟩)
            go_round
            case rel => exact ⟨k + 1, by omega, by omega, by go_num, by rw [HS.out, HA.out]; exact HC.out⟩
            case measure => simp [intOf]; omega
        · have hl : letB (s[k].toNat : Int) = false := by
            cases h : letB (s[k].toNat : Int)
            · rfl
            · exact absurd (.inl h) hc
          have hc2 : ¬ (48 ≤ (s[k].toNat : Int) ∧ (s[k].toNat : Int) ≤ 57 ∨ (s[k].toNat : Int) = 45 ∨ (s[k].toNat : Int) = 95 ∨ (s[k].toNat : Int) = 46) := fun h => hc (.inr h)
          have HC := Lib.hid (chrB_no hl hc2)
          have HL2 := Lib.hid hl
          clear hl hc
          have e1 : ((s[k].toNat : Int) != 45) = true := by rw [bne_iff_ne]; omega
          have e2 : ((s[k].toNat : Int) != 95) = true := by rw [bne_iff_ne]; omega
          have e3 : ((s[k].toNat : Int) != 46) = true := by rw [bne_iff_ne]; omega
          by_cases h1 : (s[k].toNat : Int) < 48
          · clear hc2
            go_wp2_with (go_at_call 58; refine (rletter_val HL2.out _).mono ?_; rintro e w' ⟨rfl, rfl⟩)
            go_ret
            exact ⟨ret_bool (by rw [HV.out, chrAll_false_of_take _ (k + 1)]; rw [HS.out, HC.out, Bool.and_false]), rfl⟩
          · have h2 : (57 : Int) < (s[k].toNat : Int) := by omega
            clear hc2
            go_wp2_with (go_at_call 58; refine (rletter_val HL2.out _).mono ?_; rintro e w' ⟨rfl, rfl⟩)
            go_ret
            exact ⟨ret_bool (by rw [HV.out, chrAll_false_of_take _ (k + 1)]; rw [HS.out, HC.out, Bool.and_false]), rfl⟩
      · go_wp2
        go_ret
        exact ⟨ret_bool (by rw [HV.out, ← HA.out, List.take_of_length_le (by rw [size_list]; omega)]), rfl⟩
theorem valid_val {s : ByteArray} {b : Bool} (h : validB s.data.toList = b) (w : World) (hs : s.size ≤ maxLen) :
    Calls Try.prog 60 #[.string s] w fun e w' => e = .returned (.bool b) ∧ w = w' := h ▸ valid_any s w hs
theorem rvalid_val {s : ByteArray} {b : Bool} (h : validB s.data.toList = b) (w : World) (hs : s.size ≤ maxLen) :
    Calls Try.prog 41 #[.string s] w fun e w' => e = .returned (.bool b) ∧ w = w' := h ▸ rvalid_any s w hs
end Go.Proofs.Ytmoakdplhfgipaa
