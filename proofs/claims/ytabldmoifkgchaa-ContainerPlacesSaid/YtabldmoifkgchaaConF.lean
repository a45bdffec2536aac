/- The contracts of container.Find and of the reference's Find. -/
import Derived.Test.YtabldmoifkgchaaConR
import Derived.Shelf.Abstract
namespace Go.Proofs.Ytabldmoifkgchaa
open Go.RowKit Go.Maps

/-- the index of the first element with a property, or -1 -/
def idxV {α : Type} (p : α → Bool) (L : List α) : Int := match L.findIdx? p with | some i => (i : Int) | none => -1
theorem idxV_hit {α : Type} {p : α → Bool} {L : List α} {k : Nat} {x : α} (h : ∀ y ∈ L.take k, p y = false) (hx : L[k]? = some x) (hp : p x = true) : idxV p L = (k : Int) := by
  have hlt : k < L.length := by
    rcases Nat.lt_or_ge k L.length with h1 | h1
    · exact h1
    · rw [List.getElem?_eq_none h1] at hx; cases hx
  have : L.findIdx? p = some k := by
    rw [List.findIdx?_eq_some_iff_getElem]
    refine ⟨hlt, by rw [List.getElem?_eq_getElem hlt] at hx; cases hx; exact hp, fun j hj => ?_⟩
    rw [h L[j] (List.mem_of_getElem? (i := j) (by rw [List.getElem?_take_of_lt hj, List.getElem?_eq_getElem (by omega)]))]
    decide
  unfold idxV
  rw [this]
theorem idxV_miss {α : Type} {p : α → Bool} {L : List α} (h : ∀ y ∈ L, p y = false) : idxV p L = -1 := by
  have : L.findIdx? p = none := by
    rw [List.findIdx?_eq_none_iff]
    exact h
  unfold idxV
  rw [this]
theorem idxV_cases {α : Type} (p : α → Bool) (L : List α) : idxV p L = -1 ∨ ∃ i : Nat, idxV p L = (i : Int) ∧ i < L.length ∧ ∃ x, L[i]? = some x ∧ p x = true ∧ ∀ y ∈ L.take i, p y = false := by
  unfold idxV
  cases h : L.findIdx? p with
  | none => exact .inl rfl
  | some i =>
    obtain ⟨h1, h2, h3⟩ := List.findIdx?_eq_some_iff_getElem.1 h
    refine .inr ⟨i, rfl, h1, L[i], List.getElem?_eq_getElem h1, h2, fun y hy => ?_⟩
    obtain ⟨j, hj⟩ := List.getElem?_of_mem hy
    have hji : j < i := by
      rcases Nat.lt_or_ge j i with h4 | h4
      · exact h4
      · rw [List.getElem?_eq_none (by rw [List.length_take]; omega)] at hj; cases hj
    rw [List.getElem?_take_of_lt hji, List.getElem?_eq_getElem (by omega)] at hj
    cases hj
    simpa using h3 j hji
theorem take_all {α : Type} {L : List α} {p : α → Bool} {k : Nat} {x : α} (h : ∀ y ∈ L.take k, p y = false) (hx : L[k]? = some x) (hp : p x = false) : ∀ y ∈ L.take (k + 1), p y = false := by
  have : L.take (k + 1) = L.take k ++ [x] := by rw [List.take_add_one, hx]; rfl
  rw [this]
  intro y hy
  rcases List.mem_append.1 hy with h1 | h1
  · exact h y h1
  · rw [List.mem_singleton.1 h1]; exact hp

set_option maxRecDepth 100000 in
set_option maxHeartbeats 800000 in
theorem index_any {w : World} {A : Option Addr} {n c g : Nat} {L : List Con} {lb : Array Value} {p : Con → Bool} (h : RdT w (· < w.heap.size) 5 Con.cs A n L) (hn : n ≤ maxLen) (eg : ∀ args w, (callFunc g args).run Try.prog w = .ok (.enter g args) w)
    (hg : ∀ x ∈ L, ∀ W, Below w.heap.size w W → Calls Try.prog g (#[.agg x.vs] ++ lb) W fun e w' => e = .returned (.bool (p x)) ∧ Below W.heap.size W w') :
    Calls Try.prog 26 #[.slice A n c, .func (.func g) #[] lb] w fun e w' => e = .returned (.int .i64 (idxV p L)) ∧ Below w.heap.size w w' := by
  have hlen : L.length = n := h.1
  unfold maxLen at hn
  have HL := Lib.hid hlen
  have H := Lib.hid h
  have HG := Lib.hid hg
  clear h hlen hg
  go_enter Try.func26, Try.ntmps26
  go_wp2
  go_loopw [8] (fun i wr => ∃ k : Nat, k ≤ n ∧ i = .int .i64 (k : Nat) ∧ (∀ y ∈ L.take k, p y = false) ∧ Below w.heap.size w wr) (fun i _ => n - (intOf i).toNat)
  case atStart => exact ⟨0, Nat.zero_le _, rfl, by simp, Below.refl _ _⟩
  case round =>
    obtain ⟨k, hk, rfl, hE, hbel⟩ := hrel
    have HE := Lib.hid hE
    have HB := Lib.hid hbel
    clear hE hbel
    by_cases hlt : k < n
    · obtain ⟨x, hx⟩ := at_lt (l := L) (k := k) (by rw [HL.out]; exact hlt)
      obtain ⟨b, o, rfl, hb, hc⟩ := H.out.2 (by omega)
      have hcx := (H.out.cells_ hlt hx HB.out).2
      have c0 := hcx 0 _ rfl
      rw [Nat.add_zero] at c0
      have c1 := hcx 1 _ rfl
      have c2 := hcx 2 _ rfl
      have c3 := hcx 3 _ rfl
      have c4 := hcx 4 _ rfl
      clear hcx hc
      have HC := Lib.hid (HG.out x (List.mem_of_getElem? hx) wr HB.out)
      have HX := Lib.hid hx
      clear hx
      cases hp : p x
      · have HP := Lib.hid hp
        clear hp
        go_wp2_with (go_at_fn g; refine HC.out.mono ?_; rw [HP.out]; rintro e w1 ⟨rfl, hb1⟩; have HB1 := Lib.hid (HB.out.trans (hb1.mono HB.out.size)); clear hb1)
        go_roundw
        case rel => exact ⟨k + 1, by omega, by go_num, take_all HE.out HX.out HP.out, HB1.out⟩
        case measure => simp [intOf]; omega
      · have HP := Lib.hid hp
        clear hp
        go_wp2_with (go_at_fn g; refine HC.out.mono ?_; rw [HP.out]; rintro e w1 ⟨rfl, hb1⟩; have HB1 := Lib.hid (HB.out.trans (hb1.mono HB.out.size)); clear hb1)
        go_ret
        exact ⟨ret_int (idxV_hit HE.out HX.out HP.out).symm, HB1.out⟩
    · have e : k = n := by omega
      subst e
      have HE0 : Hid (idxV p L = -1) := Lib.hid (idxV_miss (by have := HE.out; rwa [List.take_of_length_le (by rw [HL.out]; exact Nat.le_refl _)] at this))
      go_wp2
      go_ret
      exact ⟨ret_int HE0.out.symm, HB.out⟩

theorem same_id (x : Con) (id : ByteArray) (B : Nat) (W : World) (hB : W.cell? ⟨B, 0, none⟩ = some (.string id)) :
    Calls Try.prog 27 #[.agg x.vs, .pointer (some ⟨B, 0, none⟩)] W fun e w' => e = .returned (.bool (decide (x.id = id))) ∧ w' = W.alloc (.cells x.vs 29) := by
  have hlt : B < W.heap.size := World.block_lt_of_cell? _ _ hB
  have hB' : (W.alloc (.cells x.vs 29)).cell? ⟨B, 0, none⟩ = some (.string id) := (World.cell?_alloc_lt W _ ⟨B, 0, none⟩ hlt).trans hB
  by_cases h : x.id = id
  · have he := bytes_self id
    subst h
    go_enter Try.func27, Try.ntmps27
    go_wp2
    go_ret
    exact ⟨ret_bool (by simp), rfl⟩
  · have he := bytes_ne h
    have H := Lib.hid h
    clear h
    go_enter Try.func27, Try.ntmps27
    go_wp2
    go_ret
    exact ⟨ret_bool (by simp [H.out]), rfl⟩

def findV (L : List Con) (id : ByteArray) : Int := if idxV (fun x => decide (x.id = id)) L = -1 then 0 else idxV (fun x => decide (x.id = id)) L
def findB (L : List Con) (id : ByteArray) : Bool := !decide (idxV (fun x => decide (x.id = id)) L = -1)

set_option maxHeartbeats 800000 in
theorem find_any {w : World} {A : Option Addr} {n c : Nat} {L : List Con} {id : ByteArray} (h : RdT w (· < w.heap.size) 5 Con.cs A n L) (hn : n ≤ maxLen) :
    Calls Try.prog 19 #[.slice A n c, .string id] w fun e w' => e = .returned (.tuple #[.int .i64 (findV L id), .bool (findB L id)]) ∧ Below w.heap.size w w' := by
  have hb0 : Below w.heap.size w (w.alloc (.cells #[.string id] 9)) := (Below.refl _ _).alloc (Nat.le_refl _) _
  have K0 := Blk.new w 9 #[.string id]
  have HI := Lib.hid (index_any (g := 27) (c := c) (lb := #[.pointer (some ⟨w.heap.size, 0, none⟩)]) (p := fun x => decide (x.id = id)) (h.up hb0) hn (enters_of Try.func27 (by kernel_rfl) rfl) fun x _ W hW =>
    (same_id x id w.heap.size W (by have := (K0.grow hW).cell 0; simpa using this)).mono fun e w' ⟨he, hw⟩ => ⟨he, by rw [hw]; exact (Below.refl _ _).alloc (Nat.le_refl _) _⟩)
  have z0 := K0.lt
  clear K0 h
  unfold maxLen at hn
  rcases idxV_cases (fun x => decide (x.id = id)) L with hv | ⟨i, hv, hi, _⟩
  · have e1 : findV L id = 0 := if_pos hv
    have e2 : findB L id = false := by unfold findB; rw [hv]; rfl
    rw [e1, e2]
    have HV := Lib.hid hv
    clear hv e1 e2
    go_enter Try.func19, Try.ntmps19
    go_wp2_with fail
    refine HI.out.mono ?_
    rw [HV.out]
    rintro e w1 ⟨rfl, hb1⟩
    have HB1 := Lib.hid (hb0.trans (hb1.mono (Nat.le_of_lt z0)))
    clear hb0 hb1
    go_wp2
    go_ret2
    exact ⟨rfl, HB1.out⟩
  · have e1 : findV L id = (i : Int) := by unfold findV; rw [hv, if_neg (by omega)]
    have e2 : findB L id = true := by unfold findB; rw [hv]; first | (simp; done) | (simp; omega)
    rw [e1, e2]
    have HV := Lib.hid hv
    clear hv e1 e2
    go_enter Try.func19, Try.ntmps19
    go_wp2_with fail
    refine HI.out.mono ?_
    rw [HV.out]
    rintro e w1 ⟨rfl, hb1⟩
    have HB1 := Lib.hid (hb0.trans (hb1.mono (Nat.le_of_lt z0)))
    have i0 : ¬ ((i : Int) < 0) := by omega
    clear hb0 hb1
    go_wp2
    all_goals first | (exfalso; omega) | (go_ret2; exact ⟨rfl, HB1.out⟩)

set_option maxRecDepth 100000 in
set_option maxHeartbeats 800000 in
theorem rfind_any {w : World} {A : Option Addr} {n c : Nat} {L : List Con} {id : ByteArray} (h : RdT w (· < w.heap.size) 5 Con.cs A n L) (hn : n ≤ maxLen) :
    Calls Try.prog 20 #[.slice A n c, .string id] w fun e w' => e = .returned (.tuple #[.int .i64 (findV L id), .bool (findB L id)]) ∧ Below w.heap.size w w' := by
  have hlen : L.length = n := h.1
  unfold maxLen at hn
  have HL := Lib.hid hlen
  have H := Lib.hid h
  clear h hlen
  go_enter Try.func20, Try.ntmps20
  go_wp2
  go_loopw [10] (fun i wr => ∃ k : Nat, k ≤ n ∧ i = .int .i64 (k : Nat) ∧ (∀ y ∈ L.take k, decide (y.id = id) = false) ∧ Below w.heap.size w wr) (fun i _ => n - (intOf i).toNat)
  case atStart => exact ⟨0, Nat.zero_le _, rfl, by simp, Below.refl _ _⟩
  case round =>
    obtain ⟨k, hk, rfl, hE, hbel⟩ := hrel
    have HE := Lib.hid hE
    have HB := Lib.hid hbel
    clear hE hbel
    by_cases hlt : k < n
    · obtain ⟨x, hx⟩ := at_lt (l := L) (k := k) (by rw [HL.out]; exact hlt)
      obtain ⟨b, o, rfl, hb, hc⟩ := H.out.2 (by omega)
      have hcx := (H.out.cells_ hlt hx HB.out).2
      have c0 := hcx 0 _ rfl
      rw [Nat.add_zero] at c0
      have c1 := hcx 1 _ rfl
      have c2 := hcx 2 _ rfl
      have c3 := hcx 3 _ rfl
      have c4 := hcx 4 _ rfl
      clear hcx hc
      have HX := Lib.hid hx
      clear hx
      have HBA : Hid (Below w.heap.size w (wr.alloc (.cells x.vs 29))) := Lib.hid (HB.out.alloc HB.out.size _)
      by_cases hp : x.id = id
      · subst hp
        have he := bytes_self x.id
        go_wp2
        go_ret2
        have hv := idxV_hit (p := fun y => decide (y.id = x.id)) HE.out HX.out (by simp)
        refine ⟨?_, HBA.out⟩
        rw [show findV L x.id = (k : Int) by unfold findV; rw [hv, if_neg (by omega)], show findB L x.id = true by unfold findB; rw [hv]; first | (simp; done) | (simp; omega)]
        rfl
      · have he := bytes_ne hp
        have HP := Lib.hid hp
        clear hp
        go_wp2
        go_roundw
        case rel => exact ⟨k + 1, by omega, by go_num, take_all HE.out HX.out (by simp [HP.out]), HBA.out⟩
        case measure => simp [intOf]; omega
    · have e : k = n := by omega
      subst e
      have HE0 : Hid (idxV (fun y : Con => decide (y.id = id)) L = -1) := Lib.hid (idxV_miss (by have := HE.out; rwa [List.take_of_length_le (by rw [HL.out]; exact Nat.le_refl _)] at this))
      go_wp2
      go_ret2
      refine ⟨?_, HB.out⟩
      rw [show findV L id = 0 from if_pos HE0.out, show findB L id = false by unfold findB; rw [HE0.out]; rfl]
      rfl
end Go.Proofs.Ytabldmoifkgchaa
