/- Contracts of the law's 'small' and 'sample'. -/
import Derived.Test.YthalbjnjlgnndaaVehC
namespace Go.Proofs.Ythalbjnjlgnndaa
open Go.RowKit Go.Maps

def smallB (L : List Veh) : Bool := decide (L.length ≤ 40) && decide (∀ x ∈ L, x.id.size ≤ 200)
set_option maxRecDepth 100000 in
set_option maxHeartbeats 800000 in
theorem small_any {w : World} {A : Option Addr} {n c : Nat} {L : List Veh} (h : RdT w (· < w.heap.size) 6 Veh.cs A n L) (hn : n ≤ maxLen) (hsz : ∀ x ∈ L, x.id.size ≤ maxLen) :
    Calls Try.prog 10 #[.slice A n c] w fun e w' => e = .returned (.bool (smallB L)) ∧ Below w.heap.size w w' := by
  have hlen : L.length = n := h.1
  unfold maxLen at hn
  have HL := Lib.hid hlen
  have H := Lib.hid h
  have HSZ := Lib.hid hsz
  clear h hlen hsz
  by_cases h40 : 40 < n
  · go_enter Try.func10, Try.ntmps10
    go_wp2
    go_ret
    exact ⟨ret_bool (by unfold smallB; rw [HL.out]; simp; omega), Below.refl _ _⟩
  go_enter Try.func10, Try.ntmps10
  go_wp2
  go_loopw [3] (fun i wr => ∃ k : Nat, k ≤ n ∧ i = .int .i64 (k : Nat) ∧ (∀ y ∈ L.take k, y.id.size ≤ 200) ∧ Below w.heap.size w wr) (fun i _ => n - (intOf i).toNat)
  case atStart => exact ⟨0, Nat.zero_le _, rfl, by simp, Below.refl _ _⟩
  case round =>
    obtain ⟨k, hk, rfl, hE, hbel⟩ := hrel
    have HE := Lib.hid hE
    have HB := Lib.hid hbel
    clear hE hbel
    by_cases hlt : k < n
    · obtain ⟨x, hx⟩ := at_lt (l := L) (k := k) (by rw [HL.out]; exact hlt)
      obtain ⟨b, o, rfl, hb, hc⟩ := H.out.2 (by omega)
      have c0 := (H.out.cells_ hlt hx HB.out).2 0 _ rfl
      rw [Nat.add_zero] at c0
      have hxs := HSZ.out x (List.mem_of_getElem? hx)
      unfold maxLen at hxs
      have HX := Lib.hid hx
      clear hx hc
      by_cases hp : 200 < x.id.size
      · go_wp2
        go_ret
        refine ⟨ret_bool ?_, HB.out⟩
        unfold smallB
        have : ¬ ∀ y ∈ L, y.id.size ≤ 200 := fun h => by have := h x (List.mem_of_getElem? HX.out); omega
        rw [decide_eq_false this]
        simp
      · go_wp2
        go_roundw
        case rel => exact ⟨k + 1, by omega, by go_num, by
          have e : L.take (k + 1) = L.take k ++ [x] := by rw [List.take_add_one, HX.out]; rfl
          rw [e]
          intro y hy
          rcases List.mem_append.1 hy with h1 | h1
          · exact HE.out y h1
          · rw [List.mem_singleton.1 h1]; omega, HB.out⟩
        case measure => simp [intOf]; omega
    · have e : k = n := by omega
      subst e
      go_wp2
      go_ret
      refine ⟨ret_bool ?_, HB.out⟩
      unfold smallB
      have h2 := HE.out
      rw [List.take_of_length_le (by rw [HL.out]; exact Nat.le_refl _)] at h2
      rw [decide_eq_true h2, HL.out]
      simp
      omega
theorem smallB_true {L : List Veh} (h : smallB L = true) : L.length ≤ 40 ∧ ∀ x ∈ L, x.id.size ≤ 200 := by
  unfold smallB at h
  rw [Bool.and_eq_true] at h
  exact ⟨by simpa using h.1, by simpa using h.2⟩
abbrev exV : Veh := ⟨⟨#[118, 49]⟩, 0, 21600, 50400, 1000, 5⟩
abbrev exBad : Veh := ⟨⟨#[49]⟩, 9, 21600, 50400, 1000, 5⟩
abbrev exZ : Veh := ⟨⟨#[]⟩, 0, 0, 0, 0, 0⟩
theorem sample_any (w : World) : Calls Try.prog 23 #[] w fun e w' => e = .returned (.agg exV.vs) ∧ Below w.heap.size w w' := by
  go_enter Try.func23, Try.ntmps23
  go_wp2
  refine bodyPost_ret (v := .agg exV.vs) (by simp [results, Try.results23, go_sem]) rfl ⟨rfl, ?_⟩
  go_grown
end Go.Proofs.Ythalbjnjlgnndaa
