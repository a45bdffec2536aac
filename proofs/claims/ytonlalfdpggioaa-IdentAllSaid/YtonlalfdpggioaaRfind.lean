/- Contracts of the reference's table: Find and Name. -/
import Derived.Test.YtonlalfdpggioaaAwake
namespace Go.Proofs.Ytonlalfdpggioaa
open Go.RowKit Go.Maps

section
variable {w : World} {A : Option Addr} {n c : Nat} {l : List ByteArray}
set_option maxHeartbeats 400000 in
theorem rfind_no (h : RdS w (· < w.heap.size) A n (strs l)) (hn : n ≤ 1099511627776) {s : ByteArray} (hs : s ∉ l) :
    Calls Try.prog 20 #[.agg #[.slice A n c], .string s] w fun e w' => e = .returned (.tuple #[.int .i64 0, .bool false]) ∧ Below w.heap.size w w' := by
  have hlen : l.length = n := by rw [← strs_length]; exact h.1
  rcases Nat.eq_zero_or_pos n with h0 | h0
  · subst h0
    clear h hlen
    go_enter Try.func20, Try.ntmps20
    go_wp2
    go_rounds 1
    go_ret2
    exact ⟨rfl, (Below.refl _ _).alloc (Nat.le_refl _) _⟩
  · obtain ⟨b, o, rfl, hbw, hc⟩ := h.2 h0
    have HC := Lib.hid hc
    have HLEN := Lib.hid hlen
    have HS := Lib.hid hs
    clear h hc hlen hs
    go_enter Try.func20, Try.ntmps20
    go_wp2
    go_loop [6] (fun i => ∃ k : Nat, k ≤ n ∧ i = .int .i64 k) (fun i => n - (intOf i).toNat)
    case atStart => exact ⟨0, Nat.zero_le _, rfl⟩
    case round =>
      obtain ⟨k, hk, rfl⟩ := hrel
      by_cases hlt : k < n
      · obtain ⟨t, ht⟩ := at_lt (l := l) (k := k) (by rw [HLEN.out]; exact hlt)
        have hcell := HC.out k _ (strs_at ht)
        have hne : t ≠ s := fun e => HS.out (e ▸ List.mem_of_getElem? ht)
        have HB := bytes_ne hne
        clear ht hne
        go_wp2
        go_round
        case rel => exact ⟨k + 1, by omega, by go_num⟩
        case measure => simp [intOf]; omega
      · go_wp2
        go_ret2
        exact ⟨rfl, (Below.refl _ _).alloc (Nat.le_refl _) _⟩

set_option maxHeartbeats 400000 in
theorem rfind_yes (h : RdS w (· < w.heap.size) A n (strs l)) (hn : n ≤ 1099511627776) {s : ByteArray} {m : Nat} (hm : l[m]? = some s) (hs : ∀ j, j < m → l[j]? ≠ some s) :
    Calls Try.prog 20 #[.agg #[.slice A n c], .string s] w fun e w' => e = .returned (.tuple #[.int .i64 (m : Int), .bool true]) ∧ Below w.heap.size w w' := by
  have hlen : l.length = n := by rw [← strs_length]; exact h.1
  have hmn : m < n := by
    rcases Nat.lt_or_ge m n with h1 | h1
    · exact h1
    · rw [List.getElem?_eq_none (by omega)] at hm; cases hm
  obtain ⟨b, o, rfl, hbw, hc⟩ := h.2 (by omega)
  have HC := Lib.hid hc
  have HLEN := Lib.hid hlen
  have HS := Lib.hid hs
  have HM := Lib.hid hm
  clear h hc hlen hs hm
  go_enter Try.func20, Try.ntmps20
  go_wp2
  go_loop [6] (fun i => ∃ k : Nat, k ≤ m ∧ i = .int .i64 k) (fun i => n - (intOf i).toNat)
  case atStart => exact ⟨0, Nat.zero_le _, rfl⟩
  case round =>
    obtain ⟨k, hk, rfl⟩ := hrel
    have hlt : k < n := by omega
    obtain ⟨t, ht⟩ := at_lt (l := l) (k := k) (by rw [HLEN.out]; exact hlt)
    have hcell := HC.out k _ (strs_at ht)
    by_cases hkm : k < m
    · have hne : t ≠ s := fun e => HS.out k hkm (e ▸ ht)
      have HB := bytes_ne hne
      clear ht hne
      go_wp2
      go_round
      case rel => exact ⟨k + 1, by omega, by go_num⟩
      case measure => simp [intOf]; omega
    · obtain rfl : k = m := by omega
      have hts : t = s := by
        have := HM.out
        rw [ht] at this
        exact Option.some.inj this
      subst hts
      have HB := bytes_self t
      clear ht hk hkm
      go_wp2
      go_ret2
      exact ⟨rfl, (Below.refl _ _).alloc (Nat.le_refl _) _⟩

set_option maxHeartbeats 400000 in
theorem rname_yes (h : RdS w (· < w.heap.size) A n (strs l)) (hn : n ≤ 1099511627776) {s : ByteArray} {m : Nat} (hm : l[m]? = some s) :
    Calls Try.prog 22 #[.agg #[.slice A n c], .int .i64 (m : Int)] w fun e w' => e = .returned (.tuple #[.string s, .bool true]) ∧ Below w.heap.size w w' := by
  have hlen : l.length = n := by rw [← strs_length]; exact h.1
  have hmn : m < n := by
    rcases Nat.lt_or_ge m n with h1 | h1
    · exact h1
    · rw [List.getElem?_eq_none (by omega)] at hm; cases hm
  obtain ⟨b, o, rfl, hbw, hc⟩ := h.2 (by omega)
  have hcell := hc m _ (strs_at hm)
  clear h hc hlen hm
  have h1 : ¬ ((m : Int) < 0) := by omega
  have h2 : (m : Int) < (n : Int) := by omega
  go_enter Try.func22, Try.ntmps22
  go_wp2
  go_ret2
  exact ⟨rfl, (Below.refl _ _).alloc (Nat.le_refl _) _⟩

set_option maxHeartbeats 400000 in
theorem rname_no (_hn : n ≤ 1099511627776) {i : Int} (hi : i < 0 ∨ (n : Int) ≤ i) :
    Calls Try.prog 22 #[.agg #[.slice A n c], .int .i64 i] w fun e w' => e = .returned (.tuple #[.string ⟨#[]⟩, .bool false]) ∧ Below w.heap.size w w' := by
  by_cases h1 : i < 0
  · clear hi
    go_enter Try.func22, Try.ntmps22
    go_wp2
    go_ret2
    exact ⟨rfl, (Below.refl _ _).alloc (Nat.le_refl _) _⟩
  · have h2 : (n : Int) ≤ i := by omega
    clear hi
    go_enter Try.func22, Try.ntmps22
    go_wp2
    go_ret2
    exact ⟨rfl, (Below.refl _ _).alloc (Nat.le_refl _) _⟩
end
end Go.Proofs.Ytonlalfdpggioaa
