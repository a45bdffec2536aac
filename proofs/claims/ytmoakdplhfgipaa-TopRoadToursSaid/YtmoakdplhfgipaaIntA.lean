/- Lists of ints: Index, Contains, cmp.Compare, Compare. Lists of ints: Clone, Compare. Lists of ints: IndexFunc, ContainsFunc by a function of some answer. -/
import Derived.Test.YtmoakdplhfgipaaPrb
import Derived.Laws.OwnMore
import Derived.Test.YtmoakdplhfgipaaQueB
namespace Go.Proofs.Ytmoakdplhfgipaa
set_option maxRecDepth 20000
open Go.RowKit Go.Maps

set_option maxRecDepth 100000 in
theorem index_int {w : World} {A : Option Addr} {n c : Nat} {L : List Int} (h : RdS w (· < w.heap.size) A n (zs L)) (hn : n ≤ 1000) (x : Int) :
    Calls Try.prog 43 #[.slice A n c, .int .i64 x] w fun e w' => (∃ r : Int, e = .returned (.int .i64 r) ∧ (0 ≤ r ↔ x ∈ L)) ∧ Below w.heap.size w w' := by
  have hlen := h.1
  rw [zs_len] at hlen
  have HL := Lib.hid hlen
  have HM := Lib.hid h
  clear h hlen
  go_enter Try.func43, Try.ntmps43
  go_wp2
  go_loopw [8] (fun i wr => ∃ k : Nat, k ≤ n ∧ i = .int .i64 (k : Nat) ∧ x ∉ L.take k ∧ Below w.heap.size w wr) (fun i _ => n - (intOf i).toNat)
  case atStart => exact ⟨0, Nat.zero_le _, rfl, by simp, Below.refl _ _⟩
  case round =>
    obtain ⟨k, hk, rfl, hno, hbel⟩ := hrel
    have HNO := Lib.hid hno
    have HB := Lib.hid hbel
    clear hno hbel
    by_cases hlt : k < n
    · obtain ⟨y, hy⟩ := at_lt (l := L) (k := k) (by rw [HL.out]; exact hlt)
      obtain ⟨b, o, rfl, hb, hc⟩ := HM.out.2 (by omega)
      have c0 : wr.cell? ⟨b, o + k, none⟩ = some (.int .i64 y) := (World.cell?_of_block (a := ⟨b, o + k, none⟩) (HB.out.block b hb)).trans (hc k _ (zs_at hy))
      have HY := Lib.hid hy
      clear hc hy
      by_cases e : x = y
      · subst e
        go_wp2
        go_ret
        exact ⟨⟨(k : Int), rfl, by constructor; exact fun _ => List.mem_of_getElem? HY.out; exact fun _ => by omega⟩, HB.out⟩
      · have e2 : (x == y) = false := by simpa using e
        have HE := Lib.hid e
        clear e
        go_wp2
        go_roundw
        case rel =>
          refine ⟨k + 1, by omega, by go_num, ?_, HB.out⟩
          rw [List.take_add_one, HY.out]
          simp only [Option.toList_some, List.mem_append, List.mem_singleton, not_or]
          exact ⟨HNO.out, HE.out⟩
        case measure => simp [intOf]; omega
    · have e : k = n := by omega
      subst e
      have hno2 : x ∉ L := by have h1 := HNO.out; rwa [List.take_of_length_le (by rw [HL.out]; exact Nat.le_refl _)] at h1
      have HNO2 := Lib.hid hno2
      clear hno2
      go_wp2
      go_ret
      exact ⟨⟨-1, rfl, by constructor; intro h0; exact absurd h0 (by decide); exact fun h0 => absurd h0 HNO2.out⟩, HB.out⟩
theorem contains_int {w : World} {A : Option Addr} {n c : Nat} {L : List Int} (h : RdS w (· < w.heap.size) A n (zs L)) (hn : n ≤ 1000) (x : Int) :
    Calls Try.prog 22 #[.slice A n c, .int .i64 x] w fun e w' => e = .returned (.bool (decide (x ∈ L))) ∧ Below w.heap.size w w' := by
  go_enter Try.func22, Try.ntmps22
  go_wp2_with fail
  refine (index_int h hn x).mono ?_
  rintro e w1 ⟨⟨r, rfl, hr⟩, hb1⟩
  have HR := Lib.hid hr
  have HB1 := Lib.hid hb1
  clear hr hb1 h
  go_wp2
  go_ret
  refine ⟨ret_bool ?_, HB1.out⟩
  exact decide_eq_decide.2 HR.out
theorem nan_any (x : Int) (w : World) : Calls Try.prog 59 #[.int .i64 x] w fun e w' => e = .returned (.bool false) ∧ w = w' := by
  go_enter Try.func59, Try.ntmps59
  go_wp2
  go_ret
  exact ⟨by simp, rfl⟩
def SomeInt (e : Ending) : Prop := ∃ b, e = .returned (.int .i64 b)
theorem cmp_any (x y : Int) (w : World) : Calls Try.prog 45 #[.int .i64 x, .int .i64 y] w fun e w' => SomeInt e ∧ w = w' := by
  go_enter Try.func45, Try.ntmps45
  rcases Int.lt_trichotomy x y with l | l | l
  · go_wp2_with (first
      | (go_at_call 59; refine (nan_any _ _).mono ?_; rintro e w1 ⟨rfl, rfl⟩)
      | fail)
    all_goals (go_ret; exact ⟨⟨_, rfl⟩, rfl⟩)
  · subst l
    go_wp2_with (first
      | (go_at_call 59; refine (nan_any _ _).mono ?_; rintro e w1 ⟨rfl, rfl⟩)
      | fail)
    all_goals (go_ret; exact ⟨⟨_, rfl⟩, rfl⟩)
  · go_wp2_with (first
      | (go_at_call 59; refine (nan_any _ _).mono ?_; rintro e w1 ⟨rfl, rfl⟩)
      | fail)
    all_goals (go_ret; exact ⟨⟨_, rfl⟩, rfl⟩)

theorem nil_no (b o n c : Nat) (w : World) : (binOp .eql 29 (.slice (some ⟨b, o, none⟩) n c) (.slice none 0 0)).run Try.prog w = .ok (.bool false) w := by kernel_rfl
theorem own_cap {w : World} {base n c : Nat} {e : TypeId} {A : Option Addr} {xs : List Value} (h : w.ownsRow base e 1 (.slice A n c) n xs) : n ≤ c := by
  rcases h.2 with ⟨h1, h2⟩ | ⟨g, cap, cur, h1, _, _, h2, _⟩
  · rw [h2]; exact Nat.zero_le _
  · injection h1 with _ _ h3
    omega
set_option maxRecDepth 100000 in
theorem clone_int {w : World} {b o n c : Nat} {L : List Int} (h : RdS w (· < w.heap.size) (some ⟨b, o, none⟩) n (zs L)) (hn : n ≤ 1000) :
    Calls Try.prog 27 #[.slice (some ⟨b, o, none⟩) n c] w fun e w' => ∃ A' c', e = .returned (.slice A' n c') ∧ n ≤ c' ∧ RdS w' (fun x => w.heap.size ≤ x ∧ x < w'.heap.size) A' n (zs L) ∧ Below w.heap.size w w' := by
  obtain ⟨i0, hi, hz0, hz1, hz2⟩ := info_parts infoI
  have hlen := h.1
  rw [zs_len] at hlen
  have HM := Lib.hid h
  rcases Nat.eq_zero_or_pos n with h0 | h0
  · subst h0
    have hL : L = [] := List.eq_nil_of_length_eq_zero hlen
    subst hL
    go_enter Try.func27, Try.ntmps27
    go_wp2_with fail
    rw [nil_no]
    go_wp2_with fail
    go_ret
    exact ⟨_, _, rfl, Nat.le_refl _, ⟨rfl, fun h => absurd h (by omega)⟩, by go_grown⟩
  · go_enter Try.func27, Try.ntmps27
    go_wp2_with fail
    rw [nil_no]
    have hb0 : Below w.heap.size w (w.alloc (.cells #[] 3)) := by go_grown
    have HB0 := Lib.hid hb0
    have HO : Hid ((w.alloc (.cells #[] 3)).ownsRow w.heap.size 3 1 (.slice (some ⟨w.heap.size, 0, none⟩) 0 0) 0 []) := Lib.hid ⟨rfl, .inr ⟨w.heap.size, 0, #[], rfl, Nat.le_refl _, Blk.new _ _ _, Nat.le_refl _, by unfold maxLen; omega, rfl, rfl⟩⟩
    have HM1 : Hid (RdS (w.alloc (.cells #[] 3)) (· < w.heap.size) (some ⟨b, o, none⟩) n (zs L)) := Lib.hid (HM.out.below hb0)
    have HL : Hid (∀ u ∈ zs L, u.oneCell' = true) := Lib.hid (fun u hu => by
      unfold zs at hu
      obtain ⟨x, _, rfl⟩ := List.mem_map.1 hu
      rfl)
    have HLN : Hid ((zs L).length = n * 1) := Lib.hid (by rw [zs_len, hlen]; omega)
    clear hb0 h hlen
    go_wp2_with (at_builtin; refine wpList_append_lies _ rfl (.tmp 5) (.tmp 6) 29 rfl w.heap.size 3 i0 (.int .i64 0) 1 8 Try.underlying29 hi hz0 hz1 hz2 rfl (by decide) (.slice (some ⟨w.heap.size, 0, none⟩) 0 0) 0 [] rfl HO.out ⟨b, o, none⟩ n c (zs L) rfl HLN.out HM1.out.adds HL.out (by omega) (by unfold maxLen; omega) (by omega) (by simp) _ rfl ?_; intro g9 cap9 w9 hown9 hg9 hat9 hlt9; have HO9 := Lib.hid hown9; have HG9 := Lib.hid hg9; clear hown9 hg9 hat9 hlt9)
    go_ret
    have ho := HO9.out
    rw [Nat.zero_add, List.nil_append] at ho
    obtain ⟨A', c', e, hr⟩ := own_rd ho
    refine ⟨A', c', by rw [← e]; simp, own_cap (by rw [← e]; exact ho), hr, HB0.out.grown HG9.out (by simp) (fun j e => by cases e; exact Nat.le_refl _)⟩
set_option maxRecDepth 100000 in
theorem compare_int {w : World} {A B : Option Addr} {n m c d : Nat} {L M : List Int} (h : RdS w (· < w.heap.size) A n (zs L)) (h2 : RdS w (· < w.heap.size) B m (zs M)) (hn : n ≤ 1000) (hm : m ≤ 1000) :
    Calls Try.prog 26 #[.slice A n c, .slice B m d] w fun e w' => SomeInt e ∧ w = w' := by
  have hl1 := h.1
  have hl2 := h2.1
  rw [zs_len] at hl1 hl2
  have HL1 := Lib.hid hl1
  have HL2 := Lib.hid hl2
  have HA := Lib.hid h
  have HB := Lib.hid h2
  clear h h2 hl1 hl2
  go_enter Try.func26, Try.ntmps26
  go_wp2
  go_loopw [11] (fun i wr => ∃ k : Nat, k ≤ n ∧ i = .int .i64 (k : Nat) ∧ w = wr) (fun i _ => n - (intOf i).toNat)
  case atStart => exact ⟨0, Nat.zero_le _, rfl, rfl⟩
  case round =>
    obtain ⟨k, hk, rfl, rfl⟩ := hrel
    by_cases hlt : k < n
    · obtain ⟨y, hy⟩ := at_lt (l := L) (k := k) (by rw [HL1.out]; exact hlt)
      obtain ⟨b, o, rfl, hb, hc⟩ := HA.out.2 (by omega)
      have c0 := hc k _ (zs_at hy)
      clear hc hy
      by_cases hlt2 : k < m
      · obtain ⟨z, hz⟩ := at_lt (l := M) (k := k) (by rw [HL2.out]; exact hlt2)
        obtain ⟨b', o', rfl, hb', hc'⟩ := HB.out.2 (by omega)
        have c1 := hc' k _ (zs_at hz)
        clear hc' hz
        go_wp2_with (first
          | (go_at_call 45; refine (cmp_any _ _ _).mono ?_; rintro e w1 ⟨⟨r, rfl⟩, rfl⟩)
          | fail)
        all_goals first
          | (go_ret; first | exact ⟨⟨_, rfl⟩, rfl⟩ | exact ⟨⟨_, rfl⟩, trivial⟩)
          | (go_roundw
             case rel => exact ⟨k + 1, by omega, by go_num, by first | rfl | trivial⟩
             case measure => simp [intOf]; omega)
      · go_wp2
        go_ret
        first | exact ⟨⟨_, rfl⟩, rfl⟩ | exact ⟨⟨_, rfl⟩, trivial⟩
    · have e : k = n := by omega
      subst e
      go_wp2
      all_goals (go_ret; first | exact ⟨⟨_, rfl⟩, rfl⟩ | exact ⟨⟨_, rfl⟩, trivial⟩)

set_option maxRecDepth 100000 in
theorem index_fint {w : World} {A : Option Addr} {n c g : Nat} {L : List Int} {lb : Array Value} (h : RdS w (· < w.heap.size) A n (zs L)) (hn : n ≤ 1000) (eg : ∀ args w, (callFunc g args).run Try.prog w = .ok (.enter g args) w)
    (hg : ∀ x : Int, ∀ W, Below w.heap.size w W → Calls Try.prog g (#[.int .i64 x] ++ lb) W fun e w' => SomeBool e ∧ Below W.heap.size W w') :
    Calls Try.prog 42 #[.slice A n c, .func (.func g) #[] lb] w fun e w' => SomeInt e ∧ Below w.heap.size w w' := by
  have hlen := h.1
  rw [zs_len] at hlen
  have HL := Lib.hid hlen
  have H := Lib.hid h
  have HG := Lib.hid hg
  clear h hlen hg
  go_enter Try.func42, Try.ntmps42
  go_wp2
  go_loopw [8] (fun i wr => ∃ k : Nat, k ≤ n ∧ i = .int .i64 (k : Nat) ∧ Below w.heap.size w wr) (fun i _ => n - (intOf i).toNat)
  case atStart => exact ⟨0, Nat.zero_le _, rfl, Below.refl _ _⟩
  case round =>
    obtain ⟨k, hk, rfl, hbel⟩ := hrel
    have HB := Lib.hid hbel
    clear hbel
    by_cases hlt : k < n
    · obtain ⟨x, hx⟩ := at_lt (l := L) (k := k) (by rw [HL.out]; exact hlt)
      obtain ⟨b, o, rfl, hb, hc⟩ := H.out.2 (by omega)
      have c0 : wr.cell? ⟨b, o + k, none⟩ = some (.int .i64 x) := (World.cell?_of_block (a := ⟨b, o + k, none⟩) (HB.out.block b hb)).trans (hc k _ (zs_at hx))
      have HC := Lib.hid (HG.out x wr HB.out)
      clear hx hc
      go_wp2_with (go_at_fn g; refine HC.out.mono ?_; rintro e w1 ⟨⟨bb, rfl⟩, hb1⟩; have HB1 := Lib.hid (HB.out.trans (hb1.mono HB.out.size)); clear hb1)
      all_goals first
        | (go_ret; exact ⟨⟨_, rfl⟩, HB1.out⟩)
        | (go_roundw
           case rel => exact ⟨k + 1, by omega, by go_num, HB1.out⟩
           case measure => simp [intOf]; omega)
    · have e : k = n := by omega
      subst e
      go_wp2
      go_ret
      exact ⟨⟨_, rfl⟩, HB.out⟩
theorem contains_fint {w : World} {A : Option Addr} {n c g : Nat} {L : List Int} {lb : Array Value} (h : RdS w (· < w.heap.size) A n (zs L)) (hn : n ≤ 1000) (eg : ∀ args w, (callFunc g args).run Try.prog w = .ok (.enter g args) w)
    (hg : ∀ x : Int, ∀ W, Below w.heap.size w W → Calls Try.prog g (#[.int .i64 x] ++ lb) W fun e w' => SomeBool e ∧ Below W.heap.size W w') :
    Calls Try.prog 20 #[.slice A n c, .func (.func g) #[] lb] w fun e w' => SomeBool e ∧ Below w.heap.size w w' := by
  have HI := Lib.hid (index_fint (c := c) h hn eg hg)
  clear h hg hn
  go_enter Try.func20, Try.ntmps20
  go_wp2_with fail
  refine HI.out.mono ?_
  rintro e w1 ⟨⟨r, rfl⟩, hb1⟩
  go_wp2
  go_ret
  exact ⟨someBool _, hb1⟩
end Go.Proofs.Ytmoakdplhfgipaa
