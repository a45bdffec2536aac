/- Contracts of Fits, of the program and of the reference; lists of integers that came in. -/
import Derived.Test.YthalbjnjlgnndaaVehU
import Derived.Test.YthalbjnjlgnndaaOpen
namespace Go.Proofs.Ythalbjnjlgnndaa
open Go.RowKit Go.Maps

def zs (l : List Int) : List Value := l.map (Value.int .i64)
theorem zs_at {l : List Int} {i : Nat} {x : Int} (h : l[i]? = some x) : (zs l)[i]? = some (.int .i64 x) := by simp [zs, h]
theorem zs_len (l : List Int) : (zs l).length = l.length := by simp [zs]
/-- the element of a row of integers -/
theorem RdS.z {w : World} {S : Nat → Prop} {A : Option Addr} {n k : Nat} {l : List Int} {x : Int} (h : RdS w S A n (zs l)) (hk : k < n) (hx : l[k]? = some x) : ∃ b o, A = some ⟨b, o, none⟩ ∧ S b ∧ w.cell? ⟨b, o + k, none⟩ = some (.int .i64 x) := by
  obtain ⟨b, o, u, e, hb, hu, hc⟩ := h.at_ hk
  rw [zs_at hx] at hu
  cases hu
  exact ⟨b, o, e, hb, hc⟩

def i64ok (x : Int) : Prop := -9223372036854775808 ≤ x ∧ x ≤ 9223372036854775807

def fitT (g : Int) (l : List Int) (k : Nat) : Prop := (∀ n ∈ l.take k, 0 ≤ n) ∧ (k = 0 ∨ (l.take k).sum ≤ g)
theorem take_snoc' {α : Type} {l : List α} {k : Nat} {x : α} (hx : l[k]? = some x) : l.take (k + 1) = l.take k ++ [x] := by rw [List.take_add_one, hx]; rfl
theorem take_mem_snoc {l : List Int} {k : Nat} {x : Int} (h : ∀ n ∈ l.take k, 0 ≤ n) (hx : l[k]? = some x) (h0 : 0 ≤ x) : ∀ n ∈ l.take (k + 1), 0 ≤ n := by
  rw [take_snoc' hx]
  intro n hn
  rcases List.mem_append.1 hn with h1 | h1
  · exact h n h1
  · rw [List.mem_singleton.1 h1]; exact h0
theorem fit_neg {g : Int} {l : List Int} {k : Nat} {x : Int} (hx : l[k]? = some x) (h : x < 0) : ¬ fitP g l := fun hf => by
  have := hf.2.1 x (List.mem_of_getElem? hx)
  omega
theorem fit_big {g : Int} {l : List Int} {k : Nat} {x : Int} (hx : l[k]? = some x) (h : g < (l.take k).sum + x) : ¬ fitP g l := fun hf => by
  have h1 := sum_take_le hf.2.1 (k + 1)
  rw [take_snoc' hx, sum_snoc] at h1
  have := hf.2.2
  omega
theorem sum_nonneg {l : List Int} (h : ∀ n ∈ l, 0 ≤ n) : 0 ≤ l.sum := by
  have := sum_take_le h 0
  simpa using this

/-- what is left of the capacity -/
def FreeIs (g : Int) (l : List Int) (k : Nat) (b : Bool) (f : Int) : Prop :=
  (∀ n ∈ l.take k, 0 ≤ n) ∧ i64ok f ∧ ((b = true ∧ f = g - (l.take k).sum ∧ (k = 0 ∨ 0 ≤ f)) ∨ (b = false ∧ ¬ fitP g l))

set_option maxRecDepth 100000 in
set_option maxHeartbeats 1600000 in
theorem fits_any {v : Veh} {w : World} {A : Option Addr} {n c : Nat} {l : List Int} (hg : i64ok v.gr) (h : RdS w (· < w.heap.size) A n (zs l)) (hn : n ≤ maxLen) (hl : ∀ x ∈ l, i64ok x) :
    Calls Try.prog 21 #[.agg v.vs, .slice A n c] w fun e w' => e = .returned (.bool (decide (fitP v.gr l))) ∧ Below w.heap.size w w' := by
  obtain ⟨id, depot, fr, to_, gr, kinds⟩ := v
  simp only at hg ⊢
  have hlen : l.length = n := by rw [← zs_len]; exact h.1
  unfold maxLen at hn
  have HL := Lib.hid hlen
  have H := Lib.hid h
  have HOK := Lib.hid hl
  have HG := Lib.hid hg
  clear hlen h hl
  obtain ⟨g0, g1⟩ := hg
  go_enter Try.func21, Try.ntmps21
  go_wp2
  go_quiet (fail)
  go_wp2
  go_loopw [5, 6, 13] (fun b f i wr => ∃ (k : Nat) (b' : Bool) (f' : Int), k ≤ n ∧ i = .int .i64 (k : Nat) ∧ b = .bool b' ∧ f = .int .i64 f' ∧ FreeIs gr l k b' f' ∧ Below w.heap.size w wr) (fun _ _ i _ => n - (intOf i).toNat)
  case atStart => exact ⟨0, true, gr, Nat.zero_le _, rfl, rfl, rfl, ⟨by simp, HG.out, .inl ⟨rfl, by simp, .inl rfl⟩⟩, belowN (by go_grown) _⟩
  case round =>
    obtain ⟨k, b', f', hk, rfl, rfl, rfl, hfr, hbel⟩ := hrel
    have HB := Lib.hid hbel
    obtain ⟨hp, hf, hcase⟩ := hfr
    have HP := Lib.hid hp
    have HF := Lib.hid hf
    obtain ⟨f0, f1⟩ := hf
    by_cases hlt : k < n
    · obtain ⟨x, hx⟩ := at_lt (l := l) (k := k) (by rw [HL.out]; exact hlt)
      obtain ⟨b, o, rfl, hb, hc⟩ := (H.out.below hbel).z hlt hx
      obtain ⟨x0, x1⟩ := HOK.out x (List.mem_of_getElem? hx)
      have HX := Lib.hid hx
      clear hx hbel hp
      by_cases hneg : x < 0
      · clear hcase
        go_wp2
        go_ret
        exact ⟨ret_bool (by rw [decide_eq_false (fit_neg HX.out hneg)]), HB.out⟩
      rcases hcase with ⟨rfl, he, h0⟩ | ⟨rfl, hno⟩
      · by_cases hle : x ≤ f'
        · have HE := Lib.hid he
          clear he h0
          go_wp2
          go_roundw
          case rel => exact ⟨k + 1, true, f' - x, by omega, by go_num, rfl, rfl, ⟨take_mem_snoc HP.out HX.out (by omega), ⟨by omega, by omega⟩, .inl ⟨rfl, by rw [take_snoc' HX.out, sum_snoc, HE.out]; omega, .inr (by omega)⟩⟩, HB.out⟩
          case measure => simp [intOf]; omega
        · have HNO : Hid (¬ fitP gr l) := Lib.hid (fit_big HX.out (by omega))
          clear he h0
          go_wp2
          go_roundw
          case rel => exact ⟨k + 1, false, f', by omega, by go_num, rfl, rfl, ⟨take_mem_snoc HP.out HX.out (by omega), HF.out, .inr ⟨rfl, HNO.out⟩⟩, HB.out⟩
          case measure => simp [intOf]; omega
      · have HNO := Lib.hid hno
        clear hno
        go_wp2
        go_roundw
        case rel => exact ⟨k + 1, false, f', by omega, by go_num, rfl, rfl, ⟨take_mem_snoc HP.out HX.out (by omega), HF.out, .inr ⟨rfl, HNO.out⟩⟩, HB.out⟩
        case measure => simp [intOf]; omega
    · have e : k = n := by omega
      subst e
      have HP2 : Hid (∀ n ∈ l, 0 ≤ n) := Lib.hid (by
        have := HP.out
        rwa [List.take_of_length_le (by rw [HL.out]; exact Nat.le_refl _)] at this)
      rcases hcase with ⟨rfl, he, h0⟩ | ⟨rfl, hno⟩
      · rw [List.take_of_length_le (by rw [HL.out]; exact Nat.le_refl _)] at he
        have HE := Lib.hid he
        clear he hp hbel
        have hs := sum_nonneg HP2.out
        by_cases hf0 : 0 ≤ f'
        · have HT : Hid (fitP gr l) := Lib.hid ⟨by have := HE.out; omega, HP2.out, by have := HE.out; omega⟩
          clear hs h0
          go_wp2
          go_ret
          exact ⟨ret_bool (by rw [decide_eq_true HT.out]), HB.out⟩
        · have HT : Hid (¬ fitP gr l) := Lib.hid (fun hh => by have := HE.out; have := hh.2.2; omega)
          clear hs h0
          go_wp2
          go_ret
          exact ⟨ret_bool (by rw [decide_eq_false HT.out]), HB.out⟩
      · have HNO := Lib.hid hno
        clear hno hp hbel
        go_wp2
        go_ret
        exact ⟨ret_bool (by rw [decide_eq_false HNO.out]), HB.out⟩

set_option maxRecDepth 100000 in
set_option maxHeartbeats 1600000 in
theorem rfits_any {v : Veh} {w : World} {A : Option Addr} {n c : Nat} {l : List Int} (hg : i64ok v.gr) (h : RdS w (· < w.heap.size) A n (zs l)) (hn : n ≤ maxLen) (hl : ∀ x ∈ l, i64ok x) :
    Calls Try.prog 22 #[.agg v.vs, .slice A n c] w fun e w' => e = .returned (.bool (decide (fitP v.gr l))) ∧ Below w.heap.size w w' := by
  obtain ⟨id, depot, fr, to_, gr, kinds⟩ := v
  simp only at hg ⊢
  have hlen : l.length = n := by rw [← zs_len]; exact h.1
  unfold maxLen at hn
  have HL := Lib.hid hlen
  have H := Lib.hid h
  have HOK := Lib.hid hl
  have HG := Lib.hid hg
  clear hlen h hl
  obtain ⟨g0, g1⟩ := hg
  go_enter Try.func22, Try.ntmps22
  go_wp2
  go_loopw [5, 6] (fun f i wr => ∃ (k : Nat) (f' : Int), k ≤ n ∧ i = .int .i64 (k : Nat) ∧ f = .int .i64 f' ∧ FreeIs gr l k true f' ∧ Below w.heap.size w wr) (fun _ i _ => n - (intOf i).toNat)
  case atStart => exact ⟨0, gr, Nat.zero_le _, rfl, rfl, ⟨by simp, HG.out, .inl ⟨rfl, by simp, .inl rfl⟩⟩, by go_grown⟩
  case round =>
    obtain ⟨k, f', hk, rfl, rfl, hfr, hbel⟩ := hrel
    have HB := Lib.hid hbel
    obtain ⟨hp, hf, hcase⟩ := hfr
    have HP := Lib.hid hp
    have HF := Lib.hid hf
    obtain ⟨f0, f1⟩ := hf
    obtain ⟨he, h0⟩ : f' = gr - (l.take k).sum ∧ (k = 0 ∨ 0 ≤ f') := by
      rcases hcase with ⟨_, he, h0⟩ | ⟨hb, _⟩
      · exact ⟨he, h0⟩
      · cases hb
    have HE := Lib.hid he
    have H0 := Lib.hid h0
    clear hcase he h0
    by_cases hlt : k < n
    · obtain ⟨x, hx⟩ := at_lt (l := l) (k := k) (by rw [HL.out]; exact hlt)
      obtain ⟨b, o, rfl, hb, hc⟩ := (H.out.below hbel).z hlt hx
      obtain ⟨x0, x1⟩ := HOK.out x (List.mem_of_getElem? hx)
      have HX := Lib.hid hx
      clear hx hbel hp
      by_cases hneg : x < 0
      · go_wp2
        go_ret
        exact ⟨ret_bool (by rw [decide_eq_false (fit_neg HX.out hneg)]), HB.out⟩
      by_cases hf0 : f' < 0
      · have HT : Hid (¬ fitP gr l) := Lib.hid (fun hh => by
          have h1 := HE.out
          have h2 := H0.out
          obtain rfl : k = 0 := by omega
          simp at h1
          have := hh.1
          omega)
        go_wp2
        go_ret
        exact ⟨ret_bool (by rw [decide_eq_false HT.out]), HB.out⟩
      by_cases hle : x ≤ f'
      · go_wp2
        go_roundw
        case rel => exact ⟨k + 1, f' - x, by omega, by go_num, rfl, ⟨take_mem_snoc HP.out HX.out (by omega), ⟨by omega, by omega⟩, .inl ⟨rfl, by rw [take_snoc' HX.out, sum_snoc, HE.out]; omega, .inr (by omega)⟩⟩, HB.out⟩
        case measure => simp [intOf]; omega
      · have HNO : Hid (¬ fitP gr l) := Lib.hid (fit_big HX.out (by have := HE.out; omega))
        go_wp2
        go_ret
        exact ⟨ret_bool (by rw [decide_eq_false HNO.out]), HB.out⟩
    · have e : k = n := by omega
      subst e
      have HP2 : Hid (∀ n ∈ l, 0 ≤ n) := Lib.hid (by
        have := HP.out
        rwa [List.take_of_length_le (by rw [HL.out]; exact Nat.le_refl _)] at this)
      have he := HE.out
      rw [List.take_of_length_le (by rw [HL.out]; exact Nat.le_refl _)] at he
      have HE2 := Lib.hid he
      clear he hp hbel
      have hs := sum_nonneg HP2.out
      by_cases hf0 : 0 ≤ f'
      · have HT : Hid (fitP gr l) := Lib.hid ⟨by have := HE2.out; omega, HP2.out, by have := HE2.out; omega⟩
        clear hs
        go_wp2
        go_ret
        exact ⟨ret_bool (by rw [decide_eq_true HT.out]), HB.out⟩
      · have HT : Hid (¬ fitP gr l) := Lib.hid (fun hh => by have := HE2.out; have := hh.2.2; omega)
        clear hs
        go_wp2
        go_ret
        exact ⟨ret_bool (by rw [decide_eq_false HT.out]), HB.out⟩
end Go.Proofs.Ythalbjnjlgnndaa
