/- The contract of the law's 'large', and the fixed examples of chapter 13: 'awake' returns true. -/
import Derived.Test.YtabldmoifkgchaaConA
namespace Go.Proofs.Ytabldmoifkgchaa
open Go.RowKit Go.Maps

theorem flat_at {α : Type} {f : α → List Value} {s : Nat} (hf : ∀ x, (f x).length = s) : ∀ (L : List α) (i j : Nat) (x : α) (u : Value), L[i]? = some x → (f x)[j]? = some u → (L.map f).flatten[i * s + j]? = some u
  | [], i, j, x, u, h, _ => by simp at h
  | y :: r, 0, j, x, u, h, h' => by
    simp at h
    subst h
    have hj : j < (f y).length := by
      rcases Nat.lt_or_ge j (f y).length with h1 | h1
      · exact h1
      · rw [List.getElem?_eq_none h1] at h'; cases h'
    simp only [List.map_cons, List.flatten_cons, Nat.zero_mul, Nat.zero_add]
    rw [List.getElem?_append_left hj, h']
  | y :: r, i + 1, j, x, u, h, h' => by
    simp only [List.map_cons, List.flatten_cons]
    have e : (i + 1) * s + j - (f y).length = i * s + j := by rw [hf, Nat.add_mul, Nat.one_mul]; omega
    rw [List.getElem?_append_right (by rw [hf, Nat.add_mul, Nat.one_mul]; omega), e]
    exact flat_at hf r i j x u (by simpa using h) h'
/-- a slice literal of structs reads as its elements -/
theorem RdT.lit {α : Type} (w : World) {f : α → List Value} {s : Nat} (hf : ∀ x, (f x).length = s) (L : List α) (cs : Array Value) (t : TypeId) (hc : cs.toList = (L.map f).flatten) :
    RdT (w.alloc (.cells cs t)) (· < (w.alloc (.cells cs t)).heap.size) s f (some ⟨w.heap.size, 0, none⟩) L.length L :=
  ⟨rfl, fun _ => ⟨w.heap.size, 0, rfl, by simp, fun i x hx j u hu => by
    have h1 := (Blk.new w t cs).cell (i * s + j)
    rw [Nat.zero_add, h1]
    have h2 := flat_at hf L i j x u hx hu
    rw [← hc] at h2
    simpa using h2⟩⟩

def largeB (L : List Con) : Bool := decide (300 < L.length) || !decide (∀ x ∈ L, x.id.size ≤ 200)
set_option maxRecDepth 100000 in
set_option maxHeartbeats 800000 in
theorem large_any {w : World} {A : Option Addr} {n c : Nat} {L : List Con} (h : RdT w (· < w.heap.size) 5 Con.cs A n L) (hn : n ≤ maxLen) (hsz : ∀ x ∈ L, x.id.size ≤ maxLen) :
    Calls Try.prog 11 #[.slice A n c] w fun e w' => e = .returned (.bool (largeB L)) ∧ Below w.heap.size w w' := by
  have hlen : L.length = n := h.1
  unfold maxLen at hn
  have HL := Lib.hid hlen
  have H := Lib.hid h
  have HSZ := Lib.hid hsz
  clear h hlen hsz
  by_cases h300 : 300 < n
  · go_enter Try.func11, Try.ntmps11
    go_wp2
    go_ret
    exact ⟨ret_bool (by unfold largeB; rw [HL.out]; simp [h300]), Below.refl _ _⟩
  go_enter Try.func11, Try.ntmps11
  go_wp2
  go_loopw [10] (fun i wr => ∃ k : Nat, k ≤ n ∧ i = .int .i64 (k : Nat) ∧ (∀ y ∈ L.take k, y.id.size ≤ 200) ∧ Below w.heap.size w wr) (fun i _ => n - (intOf i).toNat)
  case atStart => exact ⟨0, Nat.zero_le _, rfl, by simp, Below.refl _ _⟩
  case round =>
    obtain ⟨k, hk, rfl, hE, hbel⟩ := hrel
    have HE := Lib.hid hE
    have HB := Lib.hid hbel
    clear hE hbel
    by_cases hlt : k < n
    · obtain ⟨x, hx⟩ := at_lt (l := L) (k := k) (by rw [HL.out]; exact hlt)
      obtain ⟨b, o, rfl, hb, hc⟩ := H.out.2 (by omega)
      have hcx := (H.out.cells_ hlt hx HB.out).2
      have c0 := hcx 0 _ rfl
      rw [Nat.add_zero] at c0
      have c1 := hcx 1 _ rfl
      have c2 := hcx 2 _ rfl
      have c3 := hcx 3 _ rfl
      have c4 := hcx 4 _ rfl
      clear hcx hc
      have hxs := HSZ.out x (List.mem_of_getElem? hx)
      unfold maxLen at hxs
      have HX := Lib.hid hx
      clear hx
      have HBA := Lib.hid (HB.out.alloc HB.out.size (.cells x.vs 29))
      by_cases hp : 200 < x.id.size
      · go_wp2
        go_ret
        refine ⟨ret_bool ?_, HBA.out⟩
        unfold largeB
        have : ¬ ∀ y ∈ L, y.id.size ≤ 200 := fun h => by have := h x (List.mem_of_getElem? HX.out); omega
        rw [decide_eq_false this]
        simp
      · go_wp2
        go_roundw
        case rel => exact ⟨k + 1, by omega, by go_num, by
          have e : L.take (k + 1) = L.take k ++ [x] := by rw [List.take_add_one, HX.out]; rfl
          rw [e]
          intro y hy
          rcases List.mem_append.1 hy with h1 | h1
          · exact HE.out y h1
          · rw [List.mem_singleton.1 h1]; omega, HBA.out⟩
        case measure => simp [intOf]; omega
    · have e : k = n := by omega
      subst e
      go_wp2
      go_ret
      refine ⟨ret_bool ?_, HB.out⟩
      unfold largeB
      have h2 := HE.out
      rw [List.take_of_length_le (by rw [HL.out]; exact Nat.le_refl _)] at h2
      rw [decide_eq_true h2, HL.out]
      simp
      omega
theorem largeB_false {L : List Con} (h : largeB L = false) : L.length ≤ 300 ∧ ∀ x ∈ L, x.id.size ≤ 200 := by
  unfold largeB at h
  rw [Bool.or_eq_false_iff] at h
  refine ⟨?_, ?_⟩
  · have := h.1; simp at this; omega
  · have := h.2; simpa using this
end Go.Proofs.Ytabldmoifkgchaa
