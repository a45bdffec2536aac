/- A contract of the reference's New. -/
import Derived.Test.YtonlalfdpggioaaRadd2
import Derived.Deep.RegionWith
import Derived.Deep.DeepCutAuto
namespace Go.Proofs.Ytonlalfdpggioaa
open Go.RowKit Go.Maps

def RNewPost (w : World) (ss : List ByteArray) (e : Ending) (w' : World) : Prop :=
  Below w.heap.size w w' ∧ ((newE [] ss = 0 ∧ ∃ A c, e = .returned (.tuple #[.agg #[.slice A ss.length c], .int .i64 0]) ∧ StIs w' w.heap.size A ss.length ss) ∨
    (newE [] ss ≠ 0 ∧ e = .returned (.tuple #[.agg #[.slice none 0 0], .int .i64 (newE [] ss)])))

/-- what is known of the new names behind the call of Add -/
def RCut (wr wx : World) (l : List ByteArray) (s : ByteArray) (A' : Option Addr) (n' k : Nat) : Prop := addE l s = 0 → n' = k + 1 ∧ StIs wx wr.heap.size A' (k + 1) (l ++ [s])

def RMeet (wr wx : World) (l : List ByteArray) (s : ByteArray) (k g6 : Nat) (A' : Option Addr) (n' c' : Nat) : Prop :=
  Below wr.heap.size wr wx ∧ wr.heap.size ≤ g6 ∧ Blk wx g6 31 #[.slice A' n' c'] ∧ RCut wr wx l s A' n' k
theorem RAddIs.cut {wr w1 : World} {A : Option Addr} {k c1 : Nat} {l : List ByteArray} {s : ByteArray} {A' : Option Addr} {n' c' : Nat} {m : Int} (h : RAddIs wr w1 A k c1 l s A' n' c' m) (h0 : addE l s = 0) : n' = k + 1 ∧ StIs w1 wr.heap.size A' (k + 1) (l ++ [s]) := by
  rcases h with ⟨_, hn, _, hst⟩ | ⟨hne, _⟩
  · exact ⟨hn, hst⟩
  · exact absurd h0 hne
theorem meet1 {wr w1 : World} {A : Option Addr} {k c1 : Nat} {l : List ByteArray} {s : ByteArray} {A' : Option Addr} {n' c' : Nat} {m : Int} (hX : Below wr.drew.heap.size wr.drew w1) (hA : RAddIs wr.drew w1 A k c1 l s A' n' c' m) :
    RMeet wr (w1.alloc (.cells #[.slice A' n' c'] 31)) l s k w1.heap.size A' n' c' :=
  ⟨(show Below wr.heap.size wr w1 from ⟨hX.os, hX.tape, hX.output, hX.size, hX.block⟩).alloc hX.size _, hX.size, Blk.new _ _ _, fun h0 => ⟨(hA.cut h0).1, (hA.cut h0).2.grow ((Below.refl _ _).alloc (Nat.le_refl _) _)⟩⟩
theorem meet2 {wr w1 : World} {A : Option Addr} {k c1 : Nat} {l : List ByteArray} {s : ByteArray} {A' : Option Addr} {n' c' : Nat} {m : Int}
    (hX : Below (wr.alloc (.cells #[.slice none 0 0] 31)).drew.heap.size (wr.alloc (.cells #[.slice none 0 0] 31)).drew w1)
    (hA : RAddIs (wr.alloc (.cells #[.slice none 0 0] 31)).drew w1 A k c1 l s A' n' c' m) :
    RMeet wr (w1.setCell ⟨wr.heap.size, 0, none⟩ (.slice A' n' c')) l s k wr.heap.size A' n' c' := by
  replace hX : Below (wr.alloc (.cells #[.slice none 0 0] 31)).heap.size (wr.alloc (.cells #[.slice none 0 0] 31)) w1 := ⟨hX.os, hX.tape, hX.output, hX.size, hX.block⟩
  have hk := (Blk.new wr 31 #[.slice none 0 0]).grow hX
  have hb : Below wr.heap.size wr w1 := ((Below.refl _ _).alloc (Nat.le_refl _) _).trans (hX.mono (by simp))
  refine ⟨hb.setCell (Nat.le_refl _) _, Nat.le_refl _, by simpa using hk.set_ 0 (.slice A' n' c'), fun h0 => ⟨(hA.cut h0).1, (hA.cut h0).2.keep (fun b hb1 _ => Below.heap_setCell w1 ⟨wr.heap.size, 0, none⟩ _ b ?_) (by simp [World.setCell]) (by simp)⟩⟩
  simp at hb1
  intro e
  simp at e
  omega

set_option maxHeartbeats 3200000 in
theorem rnew_any {w : World} {A : Option Addr} {n c : Nat} {ss : List ByteArray} (h : RdS w (· < w.heap.size) A n (strs ss)) (hn : n ≤ 1099511627776) (hsz : ∀ s ∈ ss, s.size ≤ maxLen) :
    Calls Try.prog 15 #[.slice A n c] w (RNewPost w ss) := by
  have hlen : ss.length = n := by rw [← strs_length]; exact h.1
  rcases Nat.eq_zero_or_pos n with h0 | h0
  · subst h0
    have hnil : ss = [] := List.eq_nil_of_length_eq_zero hlen
    subst hnil
    clear h hlen hsz
    go_enter Try.func15, Try.ntmps15
    go_wp2
    go_rounds 1
    refine bodyPost_ret (v := .tuple #[.agg #[.slice none 0 0], .int .i64 0]) (by simp [results, Try.results15, go_sem]) rfl ⟨?_, .inl ⟨rfl, none, 0, rfl, StIs.nil⟩⟩
    go_grown
  · obtain ⟨b, o, rfl, hbw, hc⟩ := h.2 h0
    have HC := Lib.hid hc
    have HSZ := Lib.hid hsz
    have HLEN := Lib.hid hlen
    clear h hc hlen hsz
    go_enter Try.func15, Try.ntmps15
    go_wp2
    go_loopw [5] (fun i wr => ∃ k A c, k ≤ n ∧ i = .int .i64 (k : Nat) ∧ StIs wr (w.heap.size + 2) A k (ss.take k) ∧ Blk wr w.heap.size 31 #[.slice none 0 0] ∧ Blk wr (w.heap.size + 1) 31 #[.slice A k c] ∧ Below w.heap.size w wr ∧ newE [] ss = newE (ss.take k) (ss.drop k)) (fun i _ => n - (intOf i).toNat)
    case atStart => exact ⟨0, none, 0, Nat.zero_le _, rfl, StIs.nil, (Blk.new w _ _).alloc _, Blk.new1 w _ _ _, by go_grown, rfl⟩
    case round =>
      obtain ⟨k, A, c1, hk, rfl, hst, kr, kt, hbel, hE⟩ := hrel
      have HE := Lib.hid hE
      have HST := Lib.hid hst
      have HBEL := Lib.hid hbel
      have KR := Lib.hid kr
      have KT := Lib.hid kt
      have ct := kt.cell 0
      simp at ct
      have hzr := kt.lt
      by_cases hlt : k < n
      · obtain ⟨s, hs⟩ := at_lt (l := ss) (k := k) (by rw [HLEN.out]; exact hlt)
        have hcell := (hbel.cell (p := ⟨b, o + k, none⟩) hbw).trans (HC.out k _ (strs_at hs))
        have hbr : b < wr.heap.size := Nat.lt_of_lt_of_le hbw hbel.size
        have hcell2 := (World.cell?_alloc_lt wr (.cells #[.slice none 0 0] 31) ⟨b, o + k, none⟩ hbr).trans hcell
        have ct2 := (kt.alloc (.cells #[.slice none 0 0] 31)).cell 0
        simp at ct2
        have hsz := HSZ.out s (List.mem_of_getElem? hs)
        have HS := Lib.hid (newE_step hs)
        have HTK := Lib.hid (take_succ' hs)
        have HSTR : Hid (∀ W : World, W = wr ∨ W = wr.alloc (.cells #[.slice none 0 0] 31) → StIs W (w.heap.size + 2) A k (ss.take k)) := Lib.hid (fun W hW => by
          rcases hW with rfl | rfl
          · exact hst
          · exact hst.grow ((Below.refl _ _).alloc (Nat.le_refl _) _))
        clear hs hst hbel hE kr kt
        go_wp2_with fail
        go_upto_region 5 with fail
        go_cut [6, 7, 8] (fun s6 s7 s8 wx => ∃ g6 A' n' c' m, s6 = .pointer (some ⟨g6, 0, none⟩) ∧ s7 = .int .i64 m ∧ s8 = .int .i64 (addE (ss.take k) s) ∧ RMeet wr wx (ss.take k) s k g6 A' n' c')
        case first =>
          go_region_with (go_at_call 18; refine (radd_any (by first | exact HSTR.out wr (.inl rfl) | exact HSTR.out (wr.alloc (.cells #[.slice none 0 0] 31)) (.inr rfl)) (by omega) hsz).mono ?_; rintro e w1 ⟨A', n', c', m, rfl, hadd, hb1⟩; have f1 := hb1.cell (p := ⟨wr.heap.size, 0, none⟩); have f2 := hb1.frozen (p := ⟨wr.heap.size, 0, none⟩); simp at f1; simp at f2; have HX := Lib.hid hb1; have HADD := Lib.hid hadd; clear hb1 hadd)
          all_goals (go_wp2_with fail; go_meet)
          all_goals first | exact ⟨_, _, _, _, _, rfl, rfl, rfl, meet1 HX.out HADD.out⟩ | exact ⟨_, _, _, _, _, rfl, rfl, rfl, meet2 HX.out HADD.out⟩
        case rest =>
          obtain ⟨g6, A', n', c', m, rfl, rfl, rfl, hmeet⟩ := hcut
          obtain ⟨hbx, hg6, kx, hcutx⟩ := hmeet
          have HBX := Lib.hid hbx
          have kr2 := KR.out.grow hbx
          have kt2 := KT.out.grow hbx
          have krlt := kr2.lt
          have cx := kx.cell 0
          have cr := kr2.cell 0
          have fr := kr2.frozen 0
          have ctt := kt2.cell 0
          have ftt := kt2.frozen 0
          have cr2 := (kr2.set_ 0 (.slice none 0 0)).cell 0
          simp at cx cr ctt cr2
          have HKX := Lib.hid kx
          have HKR := Lib.hid kr2
          have HKT := Lib.hid kt2
          have HCX := Lib.hid hcutx
          clear hbx kx kr2 kt2 hcutx
          by_cases hE0 : addE (ss.take k) s = 0
          · have hne : (addE (ss.take k) s != 0) = false := by rw [hE0]; rfl
            have HE0 := Lib.hid hE0
            clear hE0
            go_wp2
            go_roundw
            case rel =>
              obtain ⟨hn', hst'⟩ := HCX.out HE0.out
              subst hn'
              refine ⟨k + 1, A', c', by omega, by go_num, ?_, ?_, ?_, ?_, ?_⟩
              · rw [HTK.out]
                refine hst'.keep (fun b hb1 _ => Below.heap_setCell wc ⟨w.heap.size + 1, 0, none⟩ _ b ?_) (by simp [World.setCell]) (by omega)
                intro e; simp at e; omega
              · exact HKR.out.far (by simp) _
              · simpa using HKT.out.set_ 0 (.slice A' (k + 1) c')
              · exact (HBEL.out.trans (HBX.out.mono HBEL.out.size)).setCell (by simp) _
              · rw [HE.out, HS.out, if_pos HE0.out]
            case measure => simp [intOf]; omega
          · have hne : (addE (ss.take k) s != 0) = true := by rw [bne_iff_ne]; exact hE0
            have e1 : newE [] ss = addE (ss.take k) s := by rw [HE.out, HS.out, if_neg hE0]
            have HE1 := Lib.hid e1
            have HE0 := Lib.hid hE0
            clear hE0 e1
            go_wp2
            refine bodyPost_ret (v := .tuple #[.agg #[.slice none 0 0], .int .i64 (addE (ss.take k) s)]) (by simp [results, Try.results15, go_sem, cr2]) rfl ⟨?_, .inr ⟨by rw [HE1.out]; exact HE0.out, by rw [HE1.out]⟩⟩
            exact (HBEL.out.trans (HBX.out.mono HBEL.out.size)).setCell (by simp) _
      · have e : k = n := by omega
        have e0 : newE [] ss = 0 := by rw [hE, List.drop_of_length_le (by rw [HLEN.out]; omega)]; rfl
        have HE0 := Lib.hid e0
        have HK := Lib.hid e
        have cr := kr.cell 0
        have fr := kr.frozen 0
        have cr2 := (kr.set_ 0 (.slice A k c1)).cell 0
        simp at cr cr2
        clear hst hbel hE kr kt e e0
        go_wp2
        refine bodyPost_ret (v := .tuple #[.agg #[.slice A k c1], .int .i64 0]) (by simp [results, Try.results15, go_sem, cr2]) rfl ⟨HBEL.out.setCell (Nat.le_refl _) _, .inl ⟨HE0.out, A, c1, ?_, ?_⟩⟩
        · rw [HLEN.out, HK.out]
        · have hst := HST.out
          rw [HK.out, List.take_of_length_le (by rw [HLEN.out]; omega)] at hst
          rw [HLEN.out]
          refine hst.keep (fun b hb1 _ => Below.heap_setCell wr ⟨w.heap.size, 0, none⟩ _ b ?_) (by simp [World.setCell]) (by omega)
          intro e; simp at e; omega
end Go.Proofs.Ytonlalfdpggioaa
