/- Contracts of slices.IndexFunc and slices.ContainsFunc at lists of structs. -/
import Derived.Test.YtpeidgfaejnhiaaDemP
import Derived.Test.YtpeidgfaejnhiaaListsB
import Derived.Shelf.Abstract
namespace Go.Proofs.Ytpeidgfaejnhiaa
open Go.RowKit Go.Maps

theorem anyV {α : Type} (p : α → Bool) (L : List α) : L.any p = !decide (idxV p L = -1) := by
  rcases idxV_cases p L with h | ⟨i, h, hi, x, hx, hp, _⟩
  · rw [h]
    have : L.findIdx? p = none := by
      unfold idxV at h
      cases e : L.findIdx? p with
      | none => rfl
      | some j => rw [e] at h; simp at h
    rw [List.findIdx?_eq_none_iff] at this
    simp
    intro x hx
    simpa using this x hx
  · rw [h, decide_eq_false (by omega)]
    simp
    exact ⟨x, List.mem_of_getElem? hx, hp⟩

set_option maxRecDepth 100000 in
set_option maxHeartbeats 800000 in
theorem index_sch {w : World} {A : Option Addr} {n c g : Nat} {L : List Sch} {lb : Array Value} {p : Sch → Bool} (h : RdT w (· < w.heap.size) 4 Sch.cs A n L) (hn : n ≤ maxLen) (eg : ∀ args w, (callFunc g args).run Try.prog w = .ok (.enter g args) w)
    (hg : ∀ x ∈ L, ∀ W, Below w.heap.size w W → Calls Try.prog g (#[.agg x.vs] ++ lb) W fun e w' => e = .returned (.bool (p x)) ∧ Below W.heap.size W w') :
    Calls Try.prog 56 #[.slice A n c, .func (.func g) #[] lb] w fun e w' => e = .returned (.int .i64 (idxV p L)) ∧ Below w.heap.size w w' := by
  have hlen : L.length = n := h.1
  unfold maxLen at hn
  have HL := Lib.hid hlen
  have H := Lib.hid h
  have HG := Lib.hid hg
  clear h hlen hg
  go_enter Try.func56, Try.ntmps56
  go_wp2
  go_loopw [8] (fun i wr => ∃ k : Nat, k ≤ n ∧ i = .int .i64 (k : Nat) ∧ (∀ y ∈ L.take k, p y = false) ∧ Below w.heap.size w wr) (fun i _ => n - (intOf i).toNat)
  case atStart => exact ⟨0, Nat.zero_le _, rfl, by simp, Below.refl _ _⟩
  case round =>
    obtain ⟨k, hk, rfl, hE, hbel⟩ := hrel
    have HE := Lib.hid hE
    have HB := Lib.hid hbel
    clear hE hbel
    by_cases hlt : k < n
    · obtain ⟨x, hx⟩ := at_lt (l := L) (k := k) (by rw [HL.out]; exact hlt)
      obtain ⟨b, o, rfl, hb, hc⟩ := H.out.2 (by omega)
      have hcx := (H.out.cells_ hlt hx HB.out).2
      have c0 := hcx 0 _ rfl
      rw [Nat.add_zero] at c0
      have c1 := hcx 1 _ rfl
      have c2 := hcx 2 _ rfl
      have c3 := hcx 3 _ rfl
      clear hcx hc
      have HC := Lib.hid (HG.out x (List.mem_of_getElem? hx) wr HB.out)
      have HX := Lib.hid hx
      clear hx
      cases hp : p x
      · have HP := Lib.hid hp
        clear hp
        go_wp2_with (go_at_fn g; refine HC.out.mono ?_; rw [HP.out]; rintro e w1 ⟨rfl, hb1⟩; have HB1 := Lib.hid (HB.out.trans (hb1.mono HB.out.size)); clear hb1)
        go_roundw
        case rel => exact ⟨k + 1, by omega, by go_num, take_all HE.out HX.out HP.out, HB1.out⟩
        case measure => simp [intOf]; omega
      · have HP := Lib.hid hp
        clear hp
        go_wp2_with (go_at_fn g; refine HC.out.mono ?_; rw [HP.out]; rintro e w1 ⟨rfl, hb1⟩; have HB1 := Lib.hid (HB.out.trans (hb1.mono HB.out.size)); clear hb1)
        go_ret
        exact ⟨ret_int (idxV_hit HE.out HX.out HP.out).symm, HB1.out⟩
    · have e : k = n := by omega
      subst e
      have HE0 : Hid (idxV p L = -1) := Lib.hid (idxV_miss (by have := HE.out; rwa [List.take_of_length_le (by rw [HL.out]; exact Nat.le_refl _)] at this))
      go_wp2
      go_ret
      exact ⟨ret_int HE0.out.symm, HB.out⟩

set_option maxHeartbeats 800000 in
theorem contains_sch {w : World} {A : Option Addr} {n c g : Nat} {L : List Sch} {lb : Array Value} {p : Sch → Bool} (h : RdT w (· < w.heap.size) 4 Sch.cs A n L) (hn : n ≤ maxLen) (eg : ∀ args w, (callFunc g args).run Try.prog w = .ok (.enter g args) w)
    (hg : ∀ x ∈ L, ∀ W, Below w.heap.size w W → Calls Try.prog g (#[.agg x.vs] ++ lb) W fun e w' => e = .returned (.bool (p x)) ∧ Below W.heap.size W w') :
    Calls Try.prog 46 #[.slice A n c, .func (.func g) #[] lb] w fun e w' => e = .returned (.bool (L.any p)) ∧ Below w.heap.size w w' := by
  have HI := Lib.hid (index_sch (c := c) h hn eg hg)
  clear h hg hn
  rcases idxV_cases p L with hv | ⟨i, hv, hi, _⟩
  · have HA : Hid (L.any p = false) := Lib.hid (by rw [anyV, hv]; rfl)
    have HV := Lib.hid hv
    clear hv
    go_enter Try.func46, Try.ntmps46
    go_wp2_with fail
    refine HI.out.mono ?_
    rw [HV.out]
    rintro e w1 ⟨rfl, hb1⟩
    have HB1 := Lib.hid hb1
    clear hb1
    go_wp2
    go_ret
    exact ⟨ret_bool HA.out.symm, HB1.out⟩
  · have HA : Hid (L.any p = true) := Lib.hid (by rw [anyV, hv, decide_eq_false (by omega)]; rfl)
    have HV := Lib.hid hv
    clear hv
    have i0 : ¬ ((i : Int) < 0) := by omega
    go_enter Try.func46, Try.ntmps46
    go_wp2_with fail
    refine HI.out.mono ?_
    rw [HV.out]
    rintro e w1 ⟨rfl, hb1⟩
    have HB1 := Lib.hid hb1
    clear hb1
    go_wp2
    all_goals first | (exfalso; omega) | (go_ret; exact ⟨ret_bool HA.out.symm, HB1.out⟩)

set_option maxRecDepth 100000 in
set_option maxHeartbeats 800000 in
theorem index_fil {w : World} {A : Option Addr} {n c g : Nat} {L : List Fil} {lb : Array Value} {p : Fil → Bool} (h : RdT w (· < w.heap.size) 3 Fil.cs A n L) (hn : n ≤ maxLen) (eg : ∀ args w, (callFunc g args).run Try.prog w = .ok (.enter g args) w)
    (hg : ∀ x ∈ L, ∀ W, Below w.heap.size w W → Calls Try.prog g (#[.agg x.vs] ++ lb) W fun e w' => e = .returned (.bool (p x)) ∧ Below W.heap.size W w') :
    Calls Try.prog 48 #[.slice A n c, .func (.func g) #[] lb] w fun e w' => e = .returned (.int .i64 (idxV p L)) ∧ Below w.heap.size w w' := by
  have hlen : L.length = n := h.1
  unfold maxLen at hn
  have HL := Lib.hid hlen
  have H := Lib.hid h
  have HG := Lib.hid hg
  clear h hlen hg
  go_enter Try.func48, Try.ntmps48
  go_wp2
  go_loopw [8] (fun i wr => ∃ k : Nat, k ≤ n ∧ i = .int .i64 (k : Nat) ∧ (∀ y ∈ L.take k, p y = false) ∧ Below w.heap.size w wr) (fun i _ => n - (intOf i).toNat)
  case atStart => exact ⟨0, Nat.zero_le _, rfl, by simp, Below.refl _ _⟩
  case round =>
    obtain ⟨k, hk, rfl, hE, hbel⟩ := hrel
    have HE := Lib.hid hE
    have HB := Lib.hid hbel
    clear hE hbel
    by_cases hlt : k < n
    · obtain ⟨x, hx⟩ := at_lt (l := L) (k := k) (by rw [HL.out]; exact hlt)
      obtain ⟨b, o, rfl, hb, hc⟩ := H.out.2 (by omega)
      have hcx := (H.out.cells_ hlt hx HB.out).2
      have c0 := hcx 0 _ rfl
      rw [Nat.add_zero] at c0
      have c1 := hcx 1 _ rfl
      have c2 := hcx 2 _ rfl
      clear hcx hc
      have HC := Lib.hid (HG.out x (List.mem_of_getElem? hx) wr HB.out)
      have HX := Lib.hid hx
      clear hx
      cases hp : p x
      · have HP := Lib.hid hp
        clear hp
        go_wp2_with (go_at_fn g; refine HC.out.mono ?_; rw [HP.out]; rintro e w1 ⟨rfl, hb1⟩; have HB1 := Lib.hid (HB.out.trans (hb1.mono HB.out.size)); clear hb1)
        go_roundw
        case rel => exact ⟨k + 1, by omega, by go_num, take_all HE.out HX.out HP.out, HB1.out⟩
        case measure => simp [intOf]; omega
      · have HP := Lib.hid hp
        clear hp
        go_wp2_with (go_at_fn g; refine HC.out.mono ?_; rw [HP.out]; rintro e w1 ⟨rfl, hb1⟩; have HB1 := Lib.hid (HB.out.trans (hb1.mono HB.out.size)); clear hb1)
        go_ret
        exact ⟨ret_int (idxV_hit HE.out HX.out HP.out).symm, HB1.out⟩
    · have e : k = n := by omega
      subst e
      have HE0 : Hid (idxV p L = -1) := Lib.hid (idxV_miss (by have := HE.out; rwa [List.take_of_length_le (by rw [HL.out]; exact Nat.le_refl _)] at this))
      go_wp2
      go_ret
      exact ⟨ret_int HE0.out.symm, HB.out⟩

set_option maxHeartbeats 800000 in
theorem contains_fil {w : World} {A : Option Addr} {n c g : Nat} {L : List Fil} {lb : Array Value} {p : Fil → Bool} (h : RdT w (· < w.heap.size) 3 Fil.cs A n L) (hn : n ≤ maxLen) (eg : ∀ args w, (callFunc g args).run Try.prog w = .ok (.enter g args) w)
    (hg : ∀ x ∈ L, ∀ W, Below w.heap.size w W → Calls Try.prog g (#[.agg x.vs] ++ lb) W fun e w' => e = .returned (.bool (p x)) ∧ Below W.heap.size W w') :
    Calls Try.prog 54 #[.slice A n c, .func (.func g) #[] lb] w fun e w' => e = .returned (.bool (L.any p)) ∧ Below w.heap.size w w' := by
  have HI := Lib.hid (index_fil (c := c) h hn eg hg)
  clear h hg hn
  rcases idxV_cases p L with hv | ⟨i, hv, hi, _⟩
  · have HA : Hid (L.any p = false) := Lib.hid (by rw [anyV, hv]; rfl)
    have HV := Lib.hid hv
    clear hv
    go_enter Try.func54, Try.ntmps54
    go_wp2_with fail
    refine HI.out.mono ?_
    rw [HV.out]
    rintro e w1 ⟨rfl, hb1⟩
    have HB1 := Lib.hid hb1
    clear hb1
    go_wp2
    go_ret
    exact ⟨ret_bool HA.out.symm, HB1.out⟩
  · have HA : Hid (L.any p = true) := Lib.hid (by rw [anyV, hv, decide_eq_false (by omega)]; rfl)
    have HV := Lib.hid hv
    clear hv
    have i0 : ¬ ((i : Int) < 0) := by omega
    go_enter Try.func54, Try.ntmps54
    go_wp2_with fail
    refine HI.out.mono ?_
    rw [HV.out]
    rintro e w1 ⟨rfl, hb1⟩
    have HB1 := Lib.hid hb1
    clear hb1
    go_wp2
    all_goals first | (exfalso; omega) | (go_ret; exact ⟨ret_bool HA.out.symm, HB1.out⟩)

set_option maxRecDepth 100000 in
set_option maxHeartbeats 800000 in
theorem index_dem {w : World} {A : Option Addr} {n c g : Nat} {L : List Dem} {lb : Array Value} {p : Dem → Bool} (h : RdT w (· < w.heap.size) 7 Dem.cs A n L) (hn : n ≤ maxLen) (eg : ∀ args w, (callFunc g args).run Try.prog w = .ok (.enter g args) w)
    (hg : ∀ x ∈ L, ∀ W, Below w.heap.size w W → Calls Try.prog g (#[.agg x.vs] ++ lb) W fun e w' => e = .returned (.bool (p x)) ∧ Below W.heap.size W w') :
    Calls Try.prog 40 #[.slice A n c, .func (.func g) #[] lb] w fun e w' => e = .returned (.int .i64 (idxV p L)) ∧ Below w.heap.size w w' := by
  have hlen : L.length = n := h.1
  unfold maxLen at hn
  have HL := Lib.hid hlen
  have H := Lib.hid h
  have HG := Lib.hid hg
  clear h hlen hg
  go_enter Try.func40, Try.ntmps40
  go_wp2
  go_loopw [8] (fun i wr => ∃ k : Nat, k ≤ n ∧ i = .int .i64 (k : Nat) ∧ (∀ y ∈ L.take k, p y = false) ∧ Below w.heap.size w wr) (fun i _ => n - (intOf i).toNat)
  case atStart => exact ⟨0, Nat.zero_le _, rfl, by simp, Below.refl _ _⟩
  case round =>
    obtain ⟨k, hk, rfl, hE, hbel⟩ := hrel
    have HE := Lib.hid hE
    have HB := Lib.hid hbel
    clear hE hbel
    by_cases hlt : k < n
    · obtain ⟨x, hx⟩ := at_lt (l := L) (k := k) (by rw [HL.out]; exact hlt)
      obtain ⟨b, o, rfl, hb, hc⟩ := H.out.2 (by omega)
      have hcx := (H.out.cells_ hlt hx HB.out).2
      have c0 := hcx 0 _ rfl
      rw [Nat.add_zero] at c0
      have c1 := hcx 1 _ rfl
      have c2 := hcx 2 _ rfl
      have c3 := hcx 3 _ rfl
      have c4 := hcx 4 _ rfl
      have c5 := hcx 5 _ rfl
      have c6 := hcx 6 _ rfl
      clear hcx hc
      have HC := Lib.hid (HG.out x (List.mem_of_getElem? hx) wr HB.out)
      have HX := Lib.hid hx
      clear hx
      cases hp : p x
      · have HP := Lib.hid hp
        clear hp
        go_wp2_with (go_at_fn g; refine HC.out.mono ?_; rw [HP.out]; rintro e w1 ⟨rfl, hb1⟩; have HB1 := Lib.hid (HB.out.trans (hb1.mono HB.out.size)); clear hb1)
        go_roundw
        case rel => exact ⟨k + 1, by omega, by go_num, take_all HE.out HX.out HP.out, HB1.out⟩
        case measure => simp [intOf]; omega
      · have HP := Lib.hid hp
        clear hp
        go_wp2_with (go_at_fn g; refine HC.out.mono ?_; rw [HP.out]; rintro e w1 ⟨rfl, hb1⟩; have HB1 := Lib.hid (HB.out.trans (hb1.mono HB.out.size)); clear hb1)
        go_ret
        exact ⟨ret_int (idxV_hit HE.out HX.out HP.out).symm, HB1.out⟩
    · have e : k = n := by omega
      subst e
      have HE0 : Hid (idxV p L = -1) := Lib.hid (idxV_miss (by have := HE.out; rwa [List.take_of_length_le (by rw [HL.out]; exact Nat.le_refl _)] at this))
      go_wp2
      go_ret
      exact ⟨ret_int HE0.out.symm, HB.out⟩

set_option maxHeartbeats 800000 in
theorem contains_dem {w : World} {A : Option Addr} {n c g : Nat} {L : List Dem} {lb : Array Value} {p : Dem → Bool} (h : RdT w (· < w.heap.size) 7 Dem.cs A n L) (hn : n ≤ maxLen) (eg : ∀ args w, (callFunc g args).run Try.prog w = .ok (.enter g args) w)
    (hg : ∀ x ∈ L, ∀ W, Below w.heap.size w W → Calls Try.prog g (#[.agg x.vs] ++ lb) W fun e w' => e = .returned (.bool (p x)) ∧ Below W.heap.size W w') :
    Calls Try.prog 26 #[.slice A n c, .func (.func g) #[] lb] w fun e w' => e = .returned (.bool (L.any p)) ∧ Below w.heap.size w w' := by
  have HI := Lib.hid (index_dem (c := c) h hn eg hg)
  clear h hg hn
  rcases idxV_cases p L with hv | ⟨i, hv, hi, _⟩
  · have HA : Hid (L.any p = false) := Lib.hid (by rw [anyV, hv]; rfl)
    have HV := Lib.hid hv
    clear hv
    go_enter Try.func26, Try.ntmps26
    go_wp2_with fail
    refine HI.out.mono ?_
    rw [HV.out]
    rintro e w1 ⟨rfl, hb1⟩
    have HB1 := Lib.hid hb1
    clear hb1
    go_wp2
    go_ret
    exact ⟨ret_bool HA.out.symm, HB1.out⟩
  · have HA : Hid (L.any p = true) := Lib.hid (by rw [anyV, hv, decide_eq_false (by omega)]; rfl)
    have HV := Lib.hid hv
    clear hv
    have i0 : ¬ ((i : Int) < 0) := by omega
    go_enter Try.func26, Try.ntmps26
    go_wp2_with fail
    refine HI.out.mono ?_
    rw [HV.out]
    rintro e w1 ⟨rfl, hb1⟩
    have HB1 := Lib.hid hb1
    clear hb1
    go_wp2
    all_goals first | (exfalso; omega) | (go_ret; exact ⟨ret_bool HA.out.symm, HB1.out⟩)

end Go.Proofs.Ytpeidgfaejnhiaa
