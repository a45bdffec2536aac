/- A contract of the law's helper 'short': whether strings are few and short. -/
import Derived.Test.YtonlalfdpggioaaAdd
import Derived.Handy
namespace Go.Proofs.Ytonlalfdpggioaa
open Go.RowKit Go.Maps

def shortB (ss : List ByteArray) (most : Int) : Bool := decide ((ss.length : Int) ≤ most) && ss.all fun s => decide (s.size ≤ 200)
theorem all_take_succ (p : ByteArray → Bool) (ss : List ByteArray) (k : Nat) (s : ByteArray) (h : ss[k]? = some s) : (ss.take (k + 1)).all p = ((ss.take k).all p && p s) := by
  have hlt : k < ss.length := by
    rcases Nat.lt_or_ge k ss.length with h1 | h1
    · exact h1
    · rw [List.getElem?_eq_none h1] at h; cases h
  rw [List.take_succ_eq_append_getElem hlt, List.all_append]
  rw [List.getElem?_eq_getElem hlt] at h
  cases h
  simp
set_option maxHeartbeats 400000 in
theorem short_any {w : World} {S : Nat → Prop} {A : Option Addr} {n c : Nat} {ss : List ByteArray} (h : RdS w S A n (strs ss)) (most : Int) (hn : n ≤ maxLen) (hsz : ∀ s ∈ ss, s.size ≤ maxLen) :
    Calls Try.prog 13 #[.slice A n c, .int .i64 most] w fun e w' => e = .returned (.bool (shortB ss most)) ∧ w = w' := by
  have hlen : ss.length = n := by rw [← strs_length]; exact h.1
  unfold maxLen at hn
  by_cases hm : most < (n : Int)
  · have HF : Hid (shortB ss most = false) := Lib.hid (by simp [shortB, hlen]; omega)
    clear h hlen hsz
    go_enter Try.func13, Try.ntmps13
    go_wp2
    go_ret
    exact ⟨ret_bool HF.out.symm, rfl⟩
  · have HS : Hid (shortB ss most = ss.all fun s => decide (s.size ≤ 200)) := Lib.hid (by simp [shortB, hlen]; omega)
    rcases Nat.eq_zero_or_pos n with h0 | h0
    · subst h0
      have hnil : ss = [] := List.eq_nil_of_length_eq_zero hlen
      subst hnil
      clear h hlen hsz
      go_enter Try.func13, Try.ntmps13
      go_wp2
      go_rounds 1
      go_ret
      exact ⟨ret_bool HS.out.symm, rfl⟩
    · obtain ⟨b, o, rfl, _, hc⟩ := h.2 h0
      have HC := Lib.hid hc
      have HSZ := Lib.hid hsz
      have HLEN := Lib.hid hlen
      clear h hc hlen hsz
      go_enter Try.func13, Try.ntmps13
      go_wp2
      go_loop [5] (fun i => ∃ k : Nat, k ≤ n ∧ i = .int .i64 k ∧ ((ss.take k).all fun s => decide (s.size ≤ 200)) = true) (fun i => n - (intOf i).toNat)
      case atStart => exact ⟨0, Nat.zero_le _, rfl, rfl⟩
      case round =>
        obtain ⟨k, hk, rfl, hall⟩ := hrel
        have HA := Lib.hid hall; clear hall
        by_cases hlt : k < n
        · obtain ⟨s, hs⟩ := at_lt (l := ss) (k := k) (by rw [HLEN.out]; exact hlt)
          have hcell := HC.out k _ (strs_at hs)
          have HT := Lib.hid (all_take_succ (fun s => decide (s.size ≤ 200)) ss k s hs)
          have hsz := HSZ.out s (List.mem_of_getElem? hs)
          have HM := Lib.hid (List.mem_of_getElem? hs)
          unfold maxLen at hsz
          clear hs
          by_cases h200 : s.size ≤ 200
          · go_wp2
            go_round
            case rel => exact ⟨k + 1, by omega, by go_num, by rw [HT.out, HA.out]; simpa using h200⟩
            case measure => simp [intOf]; omega
          · go_wp2
            go_ret
            exact ⟨ret_bool (by rw [HS.out]; symm; rw [List.all_eq_false]; exact ⟨s, HM.out, by simpa using h200⟩), rfl⟩
        · go_wp2
          go_ret
          exact ⟨ret_bool (by rw [HS.out, ← HA.out, List.take_of_length_le (by rw [HLEN.out]; omega)]), rfl⟩
end Go.Proofs.Ytonlalfdpggioaa
