/- Kinds and useful vehicles, in plain Lean (for VehicleKinds). -/
import Derived.Test.YthalbjnjlgnndaaVehB
import Derived.Test.YthalbjnjlgnndaaVehC
namespace Go.Proofs.Ythalbjnjlgnndaa
open Go.RowKit

theorem atL_split {α : Type} (p : α → Bool) (L : List α) (m : Nat) : ∃ r, atL p L = atL p (L.take m) ++ r := by
  have e : L = L.take m ++ L.drop m := (List.take_append_drop m L).symm
  have h : atL p (L.take m ++ L.drop m) = atL p (L.take m) ++ (((L.drop m).zipIdx (0 + (L.take m).length)).filter fun y => p y.1).map (·.2) := by
    unfold atL
    rw [List.zipIdx_append, List.filter_append, List.map_append]
  rw [← e] at h
  exact ⟨_, h⟩
theorem atL_at {α : Type} {p : α → Bool} {L : List α} {k : Nat} {x : α} (hx : L[k]? = some x) (hp : p x = true) : (atL p L)[(atL p (L.take k)).length]? = some k ∧ (atL p (L.take k)).length < (atL p L).length := by
  obtain ⟨r, hr⟩ := atL_split p L (k + 1)
  rw [atL_take p hx, hp] at hr
  simp only [if_true] at hr
  rw [hr]
  refine ⟨by simp, by simp⟩
theorem carB_in {kinds k : Int} (h : carB kinds k = true) : 0 ≤ k ∧ k < 16 := by
  unfold carB at h
  rw [Bool.and_eq_true] at h
  simpa using h.1
theorem kindsK_split (kinds : Int) (m n : Nat) (h : m ≤ n) : ∃ r, kindsK kinds n = kindsK kinds m ++ r := by
  induction n with
  | zero => obtain rfl : m = 0 := by omega
            exact ⟨[], by simp⟩
  | succ n ih =>
    rcases Nat.lt_or_ge n m with h1 | h1
    · obtain rfl : m = n + 1 := by omega
      exact ⟨[], by simp⟩
    · obtain ⟨r, hr⟩ := ih h1
      rw [kindsK_succ, hr]
      exact ⟨r ++ _, by rw [List.append_assoc]⟩
theorem kindsK_at {kinds : Int} {k : Nat} (h16 : k < 16) (hc : carB kinds (k : Int) = true) : (kindsL kinds)[(kindsK kinds k).length]? = some k ∧ (kindsK kinds k).length < (kindsL kinds).length := by
  obtain ⟨r, hr⟩ := kindsK_split kinds (k + 1) 16 (by omega)
  have e3 := kindsK_succ kinds k
  rw [hc] at e3
  simp only [if_true] at e3
  rw [e3] at hr
  have e : kindsL kinds = kindsK kinds 16 := rfl
  rw [e, hr]
  refine ⟨by simp, by simp⟩
/-- how many kinds are found when t numbers from -1 on are tried -/
def cntK (kinds : Int) (t : Nat) : Nat := (kindsK kinds (min (t - 1) 16)).length
theorem cntK_succ (kinds : Int) (t : Nat) : cntK kinds (t + 1) = cntK kinds t + if carB kinds ((t : Int) - 1) then 1 else 0 := by
  unfold cntK
  rcases t with _ | s
  · have e : carB kinds (((0 : Nat) : Int) - 1) = false := by unfold carB; rw [decide_eq_false (by omega)]; rfl
    rw [e]
    simp
  · have e0 : (((s + 1 : Nat) : Int) - 1) = (s : Int) := by omega
    rw [e0]
    have e1 : s + 1 + 1 - 1 = s + 1 := by omega
    have e2 : s + 1 - 1 = s := by omega
    rw [e1, e2]
    rcases Nat.lt_or_ge s 16 with h | h
    · have e3 : min (s + 1) 16 = s + 1 := by omega
      have e4 : min s 16 = s := by omega
      rw [e3, e4, kindsK_succ]
      cases carB kinds (s : Int) <;> simp
    · have e3 : min (s + 1) 16 = 16 := by omega
      have e4 : min s 16 = 16 := by omega
      have e : carB kinds (s : Int) = false := by unfold carB; rw [decide_eq_false (by omega)]; rfl
      rw [e3, e4, e]
      simp
theorem cntK_le (kinds : Int) (t : Nat) : cntK kinds t ≤ 16 := by
  have := kindsK_len kinds (min (t - 1) 16)
  unfold cntK
  omega
theorem kinds_valid {v : Veh} {n m : Int} (h : vehE v n m = 0) : 1 ≤ v.kinds ∧ v.kinds < 2 ^ m.toNat := by
  unfold vehE at h
  split at h
  · simp at h
  · split at h
    · simp at h
    · split at h
      · simp at h
      · split at h
        · simp at h
        · split at h
          · simp at h
          · omega
theorem kinds_below {kinds m : Int} (h1 : 1 ≤ kinds) (h2 : kinds < 2 ^ m.toNat) (hm : 1 ≤ m) {k : Nat} (hc : carB kinds (k : Int) = true) : (k : Int) < m := by
  obtain ⟨a, rfl⟩ := Int.eq_ofNat_of_zero_le (show 0 ≤ kinds by omega)
  obtain ⟨_, h16⟩ := carB_in hc
  rw [carB_nat a k (by omega)] at hc
  have hge : 2 ^ k ≤ a := Nat.ge_two_pow_of_testBit hc
  have hlt : a < 2 ^ m.toNat := by
    have : ((a : Nat) : Int) < ((2 ^ m.toNat : Nat) : Int) := by simpa using h2
    omega
  have : 2 ^ k < 2 ^ m.toNat := by omega
  have := (Nat.pow_lt_pow_iff_right (by decide : 1 < 2)).1 this
  omega
theorem kinds_some {kinds m : Int} (h1 : 1 ≤ kinds) (h2 : kinds < 2 ^ m.toNat) (hm : 1 ≤ m) (hm2 : m ≤ 16) : 0 < (kindsL kinds).length := by
  have h3 := h1
  have h4 := h2
  obtain ⟨a, rfl⟩ := Int.eq_ofNat_of_zero_le (show 0 ≤ kinds by omega)
  obtain ⟨i, hi⟩ := Nat.exists_testBit_of_ne_zero (x := a) (by omega)
  have hge : 2 ^ i ≤ a := Nat.ge_two_pow_of_testBit hi
  have hlt : a < 2 ^ m.toNat := by
    have : ((a : Nat) : Int) < ((2 ^ m.toNat : Nat) : Int) := by simpa using h2
    omega
  have : 2 ^ i < 2 ^ m.toNat := by omega
  have := (Nat.pow_lt_pow_iff_right (by decide : 1 < 2)).1 this
  have hc : carB (a : Int) (i : Int) = true := by rw [carB_nat a i (by omega)]; exact hi
  have := (kindsK_at (kinds := (a : Int)) (k := i) (by omega) hc).2
  omega
theorem chkV_ok {L : List Veh} {n m : Int} (h : chkV L n m = 0) : 1 ≤ m ∧ m ≤ 16 ∧ (∀ x ∈ L, vehE x n m = 0) ∧ (L.map Veh.id).Nodup ∧ ¬ chkB n m ∧ L.length ≠ 0 ∧ L.length ≤ 16 := by
  unfold chkV at h
  split at h
  · simp at h
  · rename_i hb
    have hb' := hb
    unfold chkB at hb
    split at h
    · simp at h
    · rename_i h0
      split at h
      · simp at h
      · rename_i h16
        split at h
        · rename_i h2; exact absurd h h2
        · rename_i h2
          split at h
          · rename_i h3
            exact ⟨by omega, by omega, fun x hx => firstE_zero_iff.1 (Classical.not_not.1 h2) _ (List.mem_map.2 ⟨x, hx, rfl⟩), h3, hb', h0, by omega⟩
          · simp at h
end Go.Proofs.Ythalbjnjlgnndaa
