/- A contract of ident.New: the table of strings, or the error of the first one that has one. -/
import Derived.Test.YtonlalfdpggioaaShort
import Derived.Carry
namespace Go.Proofs.Ytonlalfdpggioaa
open Go.RowKit Go.Maps

/-- the error with which a string is added to identifiers -/
def memB (l : List ByteArray) (s : ByteArray) : Bool := l.any fun t => decide (t = s)
theorem memB_iff {l : List ByteArray} {s : ByteArray} : memB l s = true ↔ s ∈ l := by
  unfold memB
  rw [List.any_eq_true]
  exact ⟨fun ⟨t, ht, he⟩ => (of_decide_eq_true he) ▸ ht, fun h => ⟨s, h, by simp⟩⟩
def addE (l : List ByteArray) (s : ByteArray) : Int := if validB s.data.toList = true then (if memB l s = true then 6 else 0) else 5
/-- the first error of strings that are added to identifiers -/
def newE (acc : List ByteArray) : List ByteArray → Int
  | [] => 0
  | s :: r => if addE acc s = 0 then newE (acc ++ [s]) r else addE acc s
theorem addE_zero {l : List ByteArray} {s : ByteArray} (h : addE l s = 0) : validB s.data.toList = true ∧ s ∉ l := by
  unfold addE at h
  by_cases hv : validB s.data.toList = true
  · rw [if_pos hv] at h
    by_cases hm : memB l s = true
    · rw [if_pos hm] at h; omega
    · exact ⟨hv, fun h => hm (memB_iff.2 h)⟩
  · rw [if_neg hv] at h; omega
theorem addE_cases (l : List ByteArray) (s : ByteArray) : (addE l s = 5 ∧ validB s.data.toList = false) ∨ (addE l s = 6 ∧ validB s.data.toList = true ∧ s ∈ l) ∨ (addE l s = 0 ∧ validB s.data.toList = true ∧ s ∉ l) := by
  unfold addE
  by_cases hv : validB s.data.toList = true
  · rw [if_pos hv]
    by_cases hm : memB l s = true
    · rw [if_pos hm]; exact .inr (.inl ⟨rfl, hv, memB_iff.1 hm⟩)
    · rw [if_neg hm]; exact .inr (.inr ⟨rfl, hv, fun h => hm (memB_iff.2 h)⟩)
  · rw [if_neg hv]; exact .inl ⟨rfl, by simpa using hv⟩
theorem newE_step {ss : List ByteArray} {k : Nat} {s : ByteArray} (hs : ss[k]? = some s) :
    newE (ss.take k) (ss.drop k) = if addE (ss.take k) s = 0 then newE (ss.take (k + 1)) (ss.drop (k + 1)) else addE (ss.take k) s := by
  have hlt : k < ss.length := by
    rcases Nat.lt_or_ge k ss.length with h1 | h1
    · exact h1
    · rw [List.getElem?_eq_none h1] at hs; cases hs
  have e : ss[k] = s := by rw [List.getElem?_eq_getElem hlt] at hs; cases hs; rfl
  rw [List.drop_eq_getElem_cons hlt, List.take_succ_eq_append_getElem hlt, e]
  rfl
theorem take_succ' {ss : List ByteArray} {k : Nat} {s : ByteArray} (hs : ss[k]? = some s) : ss.take (k + 1) = ss.take k ++ [s] := by
  have hlt : k < ss.length := by
    rcases Nat.lt_or_ge k ss.length with h1 | h1
    · exact h1
    · rw [List.getElem?_eq_none h1] at hs; cases hs
  have e : ss[k] = s := by rw [List.getElem?_eq_getElem hlt] at hs; cases hs; rfl
  rw [List.take_succ_eq_append_getElem hlt, e]

section
variable {w w' : World} {base tb mb n : Nat} {r r' : Option Nat} {l : List ByteArray}
theorem Tab.row_ge (h : Tab w base tb mb r l) : ∀ k, r = some k → base ≤ k ∧ k < w.heap.size := by
  obtain ⟨A, c, D, _, hr, hrow, _, _⟩ := h.go
  intro k hk
  exact hrow.lt k (hr.trans hk)
theorem Tab.tb_lt (h : Tab w base tb mb r l) : tb < w.heap.size := by obtain ⟨A, c, D, hb, _⟩ := h.go; exact hb.lt
theorem Tab.mb_lt (h : Tab w base tb mb r l) : mb < w.heap.size := by obtain ⟨A, c, D, _, _, _, hm, _⟩ := h.go; exact hm.lt
theorem TabTurn.below (h : TabTurn w w' tb mb r r') (ht : Tab w base tb mb r l) (hb : base ≤ w.heap.size) : Below base w w' :=
  ⟨h.os, h.tape, h.output, h.size, fun k hk => h.block k (by omega) (by have := ht.btb; omega) (by have := ht.bmb; omega) (fun e => by have := (ht.row_ge k e.symm).1; omega)⟩
/-- a table is kept where its blocks are -/
theorem Tab.keep (h : Tab w base tb mb r l) (h1 : w'.heap[tb]? = w.heap[tb]?) (h2 : w'.heap[mb]? = w.heap[mb]?) (h3 : ∀ k, r = some k → w'.heap[k]? = w.heap[k]?) : Tab w' base tb mb r l := by
  obtain ⟨A, c, D, hb, hr, hrow, hm, hD⟩ := h.go
  refine ⟨⟨A, c, D, hb.keep h1, hr, ?_, ?_, hD⟩, h.btb, h.bmb, h.nodup, h.fits⟩
  · refine ⟨hrow.1, ?_⟩
    rcases hrow.2 with hn | ⟨g, cap, cur, hv, hb, hgg, rest⟩
    · exact .inl hn
    · refine .inr ⟨g, cap, cur, hv, hb, ?_, rest⟩
      rw [h3 g (by rw [← hr, hv]; rfl)]; exact hgg
  · obtain ⟨es, clock, hmb, rest⟩ := hm
    exact ⟨es, clock, h2.trans hmb, rest⟩
theorem Tab.below {B : Nat} (h : Tab w base tb mb r l) (hb : Below B w w') (h1 : tb < B) (h2 : mb < B) (h3 : ∀ k, r = some k → k < B) : Tab w' base tb mb r l :=
  h.keep (hb.block _ h1) (hb.block _ h2) fun k hk => hb.block _ (h3 k hk)
theorem Tab.grow (h : Tab w base tb mb r l) (hb : Below w.heap.size w w') : Tab w' base tb mb r l :=
  h.below hb h.tb_lt h.mb_lt fun k hk => (h.row_ge k hk).2
theorem Tab.less {b' : Nat} (h : Tab w base tb mb r l) (hb : b' ≤ base) : Tab w b' tb mb r l := by
  obtain ⟨A, c, D, h1, hr, hrow, hm, hD⟩ := h.go
  refine ⟨⟨A, c, D, h1, hr, ?_, hm, hD⟩, by have := h.btb; omega, by have := h.bmb; omega, h.nodup, h.fits⟩
  refine ⟨hrow.1, ?_⟩
  rcases hrow.2 with hn | ⟨g, cap, cur, hv, hb, hgg, rest⟩
  · exact .inl hn
  · exact .inr ⟨g, cap, cur, hv, by omega, hgg, rest⟩
/-- the new table -/
theorem Tab.made (w : World) : Tab ((w.alloc (.map #[] 0)).alloc (.cells #[.slice none 0 0, .map (some w.heap.size)] 59)) w.heap.size (w.heap.size + 1) w.heap.size none [] := by
  refine ⟨⟨none, 0, .map [], ?_, rfl, World.ownsRow_nil _ _ _ _, ?_, IdxD.nil⟩, by omega, Nat.le_refl _, List.nodup_nil, by simp⟩
  · have := Blk.new (w.alloc (.map #[] 0)) 59 #[.slice none 0 0, .map (some w.heap.size)]
    simpa using this
  · exact ((World.ownsMap_made w Try.prog 9 (plainElem Try.prog 3)).alloc _).mono (by simp)

def NewPost (w : World) (ss : List ByteArray) (e : Ending) (w' : World) : Prop :=
  Below w.heap.size w w' ∧ ((newE [] ss = 0 ∧ ∃ tb mb r, e = .returned (.tuple #[.pointer (some ⟨tb, 0, none⟩), .int .i64 0]) ∧ Tab w' w.heap.size tb mb r ss) ∨
    (newE [] ss ≠ 0 ∧ e = .returned (.tuple #[.pointer none, .int .i64 (newE [] ss)])))
end

set_option maxHeartbeats 800000 in
theorem new_any {w : World} {A : Option Addr} {n c : Nat} {ss : List ByteArray} (h : RdS w (· < w.heap.size) A n (strs ss)) (hn : n ≤ 1099511627776) (hsz : ∀ s ∈ ss, s.size ≤ maxLen) :
    Calls Try.prog 14 #[.slice A n c] w (NewPost w ss) := by
  have hlen : ss.length = n := by rw [← strs_length]; exact h.1
  have hmm := @run_makeMap Try.prog
  have HT0 := Lib.hid (Tab.made w)
  rcases Nat.eq_zero_or_pos n with h0 | h0
  · subst h0
    have hnil : ss = [] := List.eq_nil_of_length_eq_zero hlen
    subst hnil
    clear h hlen hsz
    go_enter Try.func14, Try.ntmps14
    go_wp2
    go_rounds 1
    go_ret2
    exact ⟨((Below.refl _ _).alloc (Nat.le_refl _) _).alloc (by simp) _, .inl ⟨rfl, _, _, _, rfl, HT0.out⟩⟩
  · obtain ⟨b, o, rfl, hbw, hc⟩ := h.2 h0
    have HC := Lib.hid hc
    have HSZ := Lib.hid hsz
    have HLEN := Lib.hid hlen
    clear h hc hlen hsz
    go_enter Try.func14, Try.ntmps14
    go_wp2
    go_loopw [14] (fun i wr => ∃ k r, k ≤ n ∧ i = .int .i64 (k : Nat) ∧ Tab wr w.heap.size (w.heap.size + 1) w.heap.size r (ss.take k) ∧ Below w.heap.size w wr ∧ newE [] ss = newE (ss.take k) (ss.drop k)) (fun i _ => n - (intOf i).toNat)
    case atStart => exact ⟨0, none, Nat.zero_le _, rfl, HT0.out, ((Below.refl _ _).alloc (Nat.le_refl _) _).alloc (by simp) _, rfl⟩
    case round =>
      obtain ⟨k, r, hk, rfl, htab, hbel, hE⟩ := hrel
      have HE := Lib.hid hE
      have HTAB := Lib.hid htab
      have HBEL := Lib.hid hbel
      by_cases hlt : k < n
      · obtain ⟨s, hs⟩ := at_lt (l := ss) (k := k) (by rw [HLEN.out]; exact hlt)
        have hcell := (hbel.cell (p := ⟨b, o + k, none⟩) hbw).trans (HC.out k _ (strs_at hs))
        have hsz := HSZ.out s (List.mem_of_getElem? hs)
        have HS := Lib.hid (newE_step hs)
        have HTK := Lib.hid (take_succ' hs)
        have hlt' : (ss.take k).length < 1099511627776 := by rw [List.length_take]; omega
        clear hs htab hbel hE
        rcases addE_cases (ss.take k) s with ⟨ha, hv⟩ | ⟨ha, hv, hm⟩ | ⟨ha, hv, hm⟩
        · have HA := Lib.hid ha
          have HV := Lib.hid hv
          clear ha hv
          go_wp2_with (go_at_call 17; refine (add_name hsz HV.out).mono ?_; rintro e w' ⟨rfl, rfl⟩)
          go_ret2
          have e5 : newE [] ss = 5 := by rw [HE.out, HS.out, if_neg (by rw [HA.out]; decide), HA.out]
          exact ⟨HBEL.out, .inr ⟨by rw [e5]; decide, by rw [e5]; rfl⟩⟩
        · have HA := Lib.hid ha
          have HV := Lib.hid hv
          clear ha hv
          go_wp2_with (go_at_call 17; refine (add_twice HTAB.out hsz HV.out hm).mono ?_; rintro e w' ⟨rfl, rfl⟩)
          go_ret2
          have e6 : newE [] ss = 6 := by rw [HE.out, HS.out, if_neg (by rw [HA.out]; decide), HA.out]
          exact ⟨HBEL.out, .inr ⟨by rw [e6]; decide, by rw [e6]; rfl⟩⟩
        · have HA := Lib.hid ha
          have HV := Lib.hid hv
          clear ha hv
          go_wp2_with (go_at_call 17; refine (add_new HTAB.out hsz HV.out hm hlt').mono ?_; rintro e w' ⟨rfl, r', ht', hturn⟩)
          go_roundw
          case rel => exact ⟨k + 1, r', by omega, by go_num, by rw [HTK.out]; exact ht', HBEL.out.trans (hturn.below HTAB.out HBEL.out.size), by rw [HE.out, HS.out, if_pos HA.out]⟩
          case measure => simp [intOf]; omega
      · have e : k = n := by omega
        have HK := Lib.hid e
        have e0 : newE [] ss = 0 := by rw [hE, List.drop_of_length_le (by rw [HLEN.out]; omega)]; rfl
        have HE0 := Lib.hid e0
        clear htab hbel hE e e0
        go_wp2
        go_ret2
        refine ⟨HBEL.out, .inl ⟨HE0.out, w.heap.size + 1, w.heap.size, r, rfl, ?_⟩⟩
        have ht := HTAB.out
        rw [List.take_of_length_le (by rw [HLEN.out]; omega)] at ht
        exact ht
end Go.Proofs.Ytonlalfdpggioaa
