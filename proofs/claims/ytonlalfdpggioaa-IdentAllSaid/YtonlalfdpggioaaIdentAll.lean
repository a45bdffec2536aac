/- IdentAll: All's sequence yields the names that a table has when All is called, also where one is added later, and no more than are wanted. No condition. -/
import Derived.Test.YtonlalfdpggioaaKeep
import Derived.Test.YtonlalfdpggioaaOpen
namespace Go.Proofs.Ytonlalfdpggioaa.identAll
open Go.ChangeShapes Go.WideShapes Go.ChangeAt Go.RowKit Go.Shelf
open Go.Proofs.Ytonlalfdpggioaa.identPlays (StD Tab.apart)
set_option linter.unusedVariables false
attribute [local go_sem] Oper.semAt_some

/-- Add of a new or an old name, the names that All has captured staying readable -/
theorem add_all {w : World} {base tb mb : Nat} {r : Option Nat} {l : List ByteArray} {s : ByteArray} {A : Option Addr} (h : Tab w base tb mb r l) (hs : s.size ≤ maxLen) (hroom : l.length < 1099511627776)
    (hA : ∀ a, A = some a → ∃ g, a = ⟨g, 0, none⟩ ∧ r = some g) (hr : RdS w (· < w.heap.size) A l.length (strs l)) :
    Calls Try.prog 17 #[.pointer (some ⟨tb, 0, none⟩), .string s] w fun e w' => ∃ m m' r', e = .returned (.tuple #[.int .i64 m, .int .i64 m']) ∧ TabTurn w w' tb mb r r' ∧ RdS w' (· < w'.heap.size) A l.length (strs l) := by
  rcases addE_cases l s with ⟨ha, hv⟩ | ⟨ha, hv, hm⟩ | ⟨ha, hv, hm⟩
  · refine (add_name hs hv).mono fun e w' ⟨he, hw⟩ => ?_
    subst hw
    exact ⟨_, _, r, he, TabTurn.refl, hr⟩
  · refine (add_twice h hs hv hm).mono fun e w' ⟨he, hw⟩ => ?_
    subst hw
    exact ⟨_, _, r, he, TabTurn.refl, hr⟩
  · refine (add_keep h hs hv hm hroom).mono fun e w' ⟨he, r', ht, hT, hk⟩ => ?_
    refine ⟨_, _, r', he, hT, hr.1, fun hn => ?_⟩
    obtain ⟨b, o, e1, hb, hc⟩ := hr.2 hn
    obtain ⟨g, e2, e3⟩ := hA _ e1
    simp only [Addr.mk.injEq] at e2
    obtain ⟨rfl, rfl, _⟩ := e2
    exact ⟨b, 0, e1, Nat.lt_of_lt_of_le hb hT.size, fun j u hu => by rw [Nat.zero_add]; exact hk b e3 j u hu⟩

theorem prs_self {ss : List ByteArray} {pre : List (Nat × ByteArray)} {k : Nat} (h : pre = prs ss k) : pre = prs ss pre.length := by
  have e : pre.length = k := by rw [h, prs_length]
  rw [e]; exact h

theorem prs_last {ss : List ByteArray} {pre : List (Nat × ByteArray)} {x : Nat × ByteArray} {k : Nat} (h : pre ++ [x] = prs ss k) : x = (pre.length, ss.getD pre.length ⟨#[]⟩) := by
  have e : pre.length + 1 = k := by have := congrArg List.length h; simpa [prs_length] using this
  rw [← e, prs_succ] at h
  have h2 := (List.append_inj' h rfl).2
  simpa using h2

set_option maxRecDepth 100000 in
set_option maxHeartbeats 3200000 in
theorem walk (w : World) (v0 : Value) (hv0 : IsStrs w v0) (v1 : Value) (hv1 : IsStr v1) (v2 : Value) (hv2 : IsInt .i64 v2) :
    Calls Try.prog 8 #[v0, v1, v2] w fun e w' => e = .returned (.bool true) ∧ Below w.heap.size w w' := by
  obtain ⟨A, n, c, ss, rfl, hr, hn, hsz, hnc⟩ := hv0
  obtain ⟨s, rfl, hs⟩ := hv1
  obtain ⟨most, rfl, _⟩ := hv2
  have hlen : ss.length = n := by rw [← strs_length]; exact hr.1
  refine (callsIn_wide (n := 5)).1 ?_
  refine callsIn_of_wp_marks Try.func8 rfl trivial ?_ rfl
  simp only [Try.ntmps8, List.size_toArray, List.length_cons, List.length_nil, Nat.reduceAdd, Nat.reduceSub, Array.replicate_succ, Array.replicate_zero, List.push_toArray, List.append_toArray, List.nil_append, List.cons_append]
  gi_wp2_with fail
  have b0 := (Boxed.new w 3 (.int .i64 most)).alloc (.cells #[.bool false] 4)
  have b1 := Boxed.new (w.alloc (.cells #[.int .i64 most] 3)) 4 (.bool false)
  rw [World.size_alloc] at b1
  obtain ⟨w0, hw0, hB0⟩ : ∃ w0, ((w.alloc (.cells #[.int .i64 most] 3)).alloc (.cells #[.bool false] 4)) = w0 ∧ Below w.heap.size w w0 := ⟨_, rfl, ((Below.refl _ w).alloc (Nat.le_refl _) _).alloc (by simp) _⟩
  rw [hw0] at b0 b1 ⊢
  have hsz0 : w0.heap.size = w.heap.size + 1 + 1 := by rw [← hw0]; simp
  clear hw0
  have HR := Lib.hid (hr.up hB0)
  have HSZ := Lib.hid hsz
  have HB0 := Lib.hid hB0
  have HS := Lib.hid (short_any (c := c) HR.out 60 hn hsz)
  have HLEN := Lib.hid hlen
  have c1 := b1.cell
  have f1 := b1.frozen
  have l1 := b1.lt
  have HX0 := Lib.hid b0
  have HX1 := Lib.hid b1
  clear hr hsz hlen hB0 b0 b1
  cases hb : shortB ss 60
  · rw [hb] at HS
    clear hb
    refine ⟨trivial, ?_⟩
    refine (callsIn_wide.2 HS.out).mono ?_
    rintro e w1 ⟨rfl, rfl⟩
    gi_wp2_with fail
    refine ⟨trivial, ?_⟩
    refine (callsIn_wide.2 (awake_any _)).mono ?_
    rintro e w5 ⟨rfl, hb5⟩
    have c5 := (hb5.cell (p := ⟨w.heap.size + 1, 0, none⟩) l1).trans c1
    have f5 := (hb5.frozen (p := ⟨w.heap.size + 1, 0, none⟩) l1).trans f1
    have HB5 := Lib.hid (HB0.out.trans (hb5.mono HB0.out.size))
    clear hb5 c1 f1
    gi_wp2_with fail
    have c6 := World.cell?_setCell_same' w5 ⟨w.heap.size + 1, 0, none⟩ (.bool true) (by rw [c5]; rfl)
    refine ⟨.bool true, ?_, rfl, HB5.out.setCell (p := ⟨w.heap.size + 1, 0, none⟩) (Nat.le_succ _) _⟩
    simp [results, Try.f8, go_sem, c6]
  rw [hb] at HS
  have hn60 : n ≤ 60 := by have := shortB_len hb; have := HLEN.out; omega
  clear hb
  by_cases hs200 : 200 < s.size
  · refine ⟨trivial, ?_⟩
    refine (callsIn_wide.2 HS.out).mono ?_
    rintro e w1 ⟨rfl, rfl⟩
    gi_wp2_with fail
    refine ⟨trivial, ?_⟩
    refine (callsIn_wide.2 (awake_any _)).mono ?_
    rintro e w5 ⟨rfl, hb5⟩
    have c5 := (hb5.cell (p := ⟨w.heap.size + 1, 0, none⟩) l1).trans c1
    have f5 := (hb5.frozen (p := ⟨w.heap.size + 1, 0, none⟩) l1).trans f1
    have HB5 := Lib.hid (HB0.out.trans (hb5.mono HB0.out.size))
    clear hb5 c1 f1
    gi_wp2_with fail
    have c6 := World.cell?_setCell_same' w5 ⟨w.heap.size + 1, 0, none⟩ (.bool true) (by rw [c5]; rfl)
    refine ⟨.bool true, ?_, rfl, HB5.out.setCell (p := ⟨w.heap.size + 1, 0, none⟩) (Nat.le_succ _) _⟩
    simp [results, Try.f8, go_sem, c6]
  refine ⟨trivial, ?_⟩
  refine (callsIn_wide.2 HS.out).mono ?_
  rintro e w1 ⟨rfl, rfl⟩
  gi_wp2_with fail
  by_cases hE : newE [] ss = 0
  · have HE := Lib.hid hE
    clear hE
    refine ⟨trivial, ?_⟩
    refine (callsIn_wide.2 (new_ok HR.out (by omega) HSZ.out HE.out)).mono ?_
    rintro e w1 ⟨tb, mb, r, rfl, ht, hb1⟩
    have HB1 := Lib.hid hb1
    have HR1 := Lib.hid (HR.out.up hb1)
    have s1 := hb1.size
    have t1 := ht.tb_lt
    have t2 := ht.mb_lt
    have HT1 := Lib.hid ht
    clear hb1 ht
    gi_wp2_with fail
    refine ⟨trivial, ?_⟩
    refine (callsIn_wide.2 (rnew_ok HR1.out (by omega) HSZ.out HE.out)).mono ?_
    rintro e w2 ⟨A', c', rfl, hst, hb2⟩
    have s2 := hb2.size
    have HB2 := Lib.hid (HB1.out.trans (hb2.mono s1))
    have HT2 := Lib.hid ((HT1.out.grow hb2).grow ((Below.refl _ _).alloc (Nat.le_refl _) (.cells #[.slice A' ss.length c'] 31)))
    have HST := Lib.hid ((StD.of_st (tb := tb) (mb := mb) (r := r) (sb := w2.heap.size) hst t1 t2 (.inr (Nat.le_refl _)) fun k hk => (HT1.out.row_ge k hk).2).grow ((Below.refl _ _).alloc (Nat.le_refl _) (.cells #[.slice A' ss.length c'] 31)))
    have HKB := Lib.hid (Blk.new w2 31 #[.slice A' ss.length c'])
    have HB3 := Lib.hid (HB2.out.alloc (by omega) (.cells #[.slice A' ss.length c'] 31))
    clear hb2 hst HB2 HT1 HB1
    gi_wp2_with fail
    obtain ⟨w3, hw3⟩ : ∃ w3, w2.alloc (.cells #[.slice A' ss.length c'] 31) = w3 := ⟨_, rfl⟩
    have hsb : w2.heap.size < w3.heap.size := by rw [← hw3]; simp
    rw [hw3] at HT2 HST HKB HB3 ⊢
    clear hw3
    generalize hsbe : w2.heap.size = sb at *
    clear hsbe HR1
    refine ⟨trivial, ?_⟩
    refine (callsIn_wide.2 (all_tab HT2.out)).mono ?_
    rintro e w4 ⟨AA, rfl, hkb4, hAA, hrd4, hb4⟩
    have HT4 := Lib.hid (HT2.out.grow hb4)
    have HST4 := Lib.hid (StD.grow HST.out hb4)
    have HKS4 := Lib.hid (HKB.out.grow hb4)
    have HKN4 := Lib.hid hkb4
    have HAA := Lib.hid hAA
    have HRN4 := Lib.hid ((hrd4.below hb4).mono fun b hb => Nat.lt_of_lt_of_le hb hb4.size)
    have HB4 := Lib.hid (HB3.out.trans (hb4.mono HB3.out.size))
    have hBs : w3.heap.size < w4.heap.size := hkb4.lt
    clear hkb4 hAA hrd4 hb4 HT2 HST HKB HB3
    gi_wp2_with fail
    rw [fn_nil]
    gi_wp2_with fail
    refine ⟨trivial, ?_⟩
    refine (callsIn_wide.2 (add_all HT4.out hs (by have := HLEN.out; omega) HAA.out HRN4.out)).mono ?_
    rintro e w5 ⟨m, m', r', rfl, htu, hrn5⟩
    have HB5' := htu.below HT4.out HB4.out.size
    obtain ⟨n1, n2, n3⟩ := Tab.apart HT4.out HKN4.out (by decide) (by decide)
    have HKN5 := Lib.hid (HKN4.out.keep (htu.block w3.heap.size hBs n1 n2 n3))
    obtain ⟨n4, n5, n6⟩ := Tab.apart HT4.out HKS4.out (by decide) (by decide)
    have HKS5 := Lib.hid (HKS4.out.keep (htu.block sb HKS4.out.lt n4 n5 n6))
    have HST5 := Lib.hid (StD.turn HST4.out htu).st.rd
    have HRN5 := Lib.hid hrn5
    have HB5 := Lib.hid (HB4.out.trans HB5')
    have s5 := htu.size
    have s4 := HB4.out.size
    clear htu hrn5 HT4 HST4 HKS4 HKN4 HAA HRN4 HB4 HB5' n1 n2 n3 n4 n5 n6
    gi_wp2_with fail
    have HX5 := Lib.hid (HB0.out.trans (HB5.out.mono HB0.out.size))
    have b0 : Boxed w5 w.heap.size 3 (.int .i64 most) := (HB5.out.block _ (by omega)).trans HX0.out
    have b1 : Boxed w5 (w.heap.size + 1) 4 (.bool false) := (HB5.out.block _ (by omega)).trans HX1.out
    have bN := Boxed.new w5 3 (.int .i64 0)
    obtain ⟨w6, hw6, hB6⟩ : ∃ w6, w5.alloc (.cells #[.int .i64 0] 3) = w6 ∧ Below w5.heap.size w5 w6 := ⟨_, rfl, (Below.refl _ w5).alloc (Nat.le_refl _) _⟩
    have hsz6 : w6.heap.size = w5.heap.size + 1 := by rw [← hw6]; simp
    rw [hw6] at bN ⊢
    clear hw6
    have HN6 := Lib.hid bN
    have HS6 := Lib.hid (HST5.out.below hB6)
    have HKS6 := HKS5.out.grow hB6
    have cs6 := HKS6.cell 0
    have HKN6 := HKN5.out.grow hB6
    have cn6 := HKN6.cell 0
    simp at cs6 cn6
    have hRN6 := HRN5.out.below hB6
    have hX6 := HX5.out.trans (hB6.mono HX5.out.size)
    have cm6 := (hB6.cell (p := ⟨w.heap.size, 0, none⟩) (by simp only; omega)).trans b0.cell
    have cr6 := (hB6.cell (p := ⟨w.heap.size + 1, 0, none⟩) (by simp only; omega)).trans b1.cell
    have fr6 := (hB6.frozen (p := ⟨w.heap.size + 1, 0, none⟩) (by simp only; omega)).trans b1.frozen
    have HX6 := Lib.hid hX6
    have ks5 := HKS5.out.lt
    clear hX6 HX5 b0 b1 bN hB6 HKS6 HKN6 HKS5 HKN5 HST5 HRN5 HX0 HX1 HR HB0 HB5 HS c1 f1
    generalize hN0 : w5.heap.size = N0 at *
    clear hN0
    refine' wpIn_rangeFunc_ownG (n := 5) rfl (by decide) (gf := 27) (lb := #[.pointer (some ⟨w3.heap.size, 0, none⟩)]) rfl trivial (enters_of Try.func27 (by kernel_rfl) rfl)
      (all_stops (5 - 1) (by decide) w3.heap.size N0 ss.length ss.length AA ss (by have := HLEN.out; omega) w6 (by omega) (by omega) cn6 hRN6) belowK_t (belowK_b (by omega)) (Below.refl _ _) (fun _ => rfl)
      (fun pre W => (Boxed W N0 3 (.int .i64 (pre.length : Int)) ∧ pre = prs ss pre.length) ∧ Below N0 w6 W)
      (fun co pre W => (co = .ret ∧ ∀ k, pre ≠ prs ss k) ∨ (co = .exit 0 ∧ Boxed W N0 3 (.int .i64 most) ∧ Below N0 w6 W))
      (OwnFrom.and (fun pre W W' row h hg hr => ⟨h.1.kept hg (fun e => by have := (hr _ e.symm).1; omega), h.2⟩) (ownFrom_below (by omega) (by omega)))
      (fun co pre W W' row h hg hr => h.elim .inl fun ⟨h1, h2, h3⟩ => .inr ⟨h1, h2.kept hg (fun e => by have := (hr _ e.symm).1; omega), (ownFrom_below (β := Unit) (B := w6.heap.size) (by omega) (by omega)) () W W' row h3 hg hr⟩)
      ⟨⟨HN6.out, rfl⟩, Below.refl _ _⟩ _ ?assign ?body ?done ?stop
    case assign =>
      intro l x W K hK
      gi_wp2
      exact hK
    case body =>
      rintro l pre ⟨i, name⟩ W ⟨⟨hN, hp⟩, hB⟩ hlt
      obtain ⟨b, o, u, hA', hbN, hu, hcu⟩ := (HS6.out.below hB).at_ hlt
      obtain ⟨t, ht⟩ := at_lt (l := ss) (k := pre.length) hlt
      rw [strs_at ht] at hu
      cases hu
      subst hA'
      have hcn := hN.cell
      have hfn := hN.frozen
      have hcs := (hB.cell (p := ⟨sb, 0, none⟩) ks5).trans cs6
      have hcm := (hB.cell (p := ⟨w.heap.size, 0, none⟩) (by simp only; omega)).trans cm6
      have hcr := (hB.cell (p := ⟨w.heap.size + 1, 0, none⟩) (by simp only; omega)).trans cr6
      have hfr := (hB.frozen (p := ⟨w.heap.size + 1, 0, none⟩) (by simp only; omega)).trans fr6
      have HP := Lib.hid hp
      have HB := Lib.hid hB
      have HN := Lib.hid hN
      have HTT := Lib.hid ht
      clear hp hB hN ht cs6 cn6 cm6 cr6 fr6 hRN6
      have HWR : Hid (wrap64 ((pre.length : Int) + 1) = (pre.length : Int) + 1) := Lib.hid (by have := HLEN.out; unfold wrap64; omega)
      by_cases hi : i = pre.length
      · subst hi
        by_cases hnm : name = t
        · subst hnm
          have hgd : ss.getD pre.length ⟨#[]⟩ = name := by simp [List.getD, HTT.out]
          have HGD := Lib.hid hgd
          clear hgd
          gi_wp2_with fail
          · have hq : wrap64 ((pre.length : Int) + 1) = most := beq_iff_eq.1 (by assumption)
            exact ⟨(KeepsOthers.setCell W ⟨N0, 0, none⟩ _).from _, .inr ⟨rfl, by have := HN.out.set (.int .i64 (wrap64 ((pre.length : Int) + 1))); rwa [← hq], HB.out.setCell (p := ⟨N0, 0, none⟩) (Nat.le_refl _) _⟩⟩
          · refine ⟨(KeepsOthers.setCell W ⟨N0, 0, none⟩ _).from _, (Below.refl _ _).setCell (p := ⟨N0, 0, none⟩) (Nat.le_refl _) _, ⟨?_, ?_⟩, HB.out.setCell (p := ⟨N0, 0, none⟩) (Nat.le_refl _) _⟩
            · rw [HWR.out]
              simpa using HN.out.set (.int .i64 ((pre.length : Int) + 1))
            · rw [List.length_append, List.length_singleton, prs_succ, HGD.out, ← HP.out]
        · have hno : ∀ k, pre ++ [(pre.length, name)] ≠ prs ss k := fun k e => hnm (by have := prs_last e; simp [List.getD, HTT.out] at this; exact this)
          have HNO := Lib.hid hno
          have hbn := bytes_ne hnm
          clear hno
          gi_wp2_with fail
          exact ⟨(KeepsOthers.setCell W ⟨w.heap.size + 1, 0, none⟩ _).from _, .inl ⟨rfl, HNO.out⟩⟩
      · have hno : ∀ k, pre ++ [(i, name)] ≠ prs ss k := fun k e => hi (by have := prs_last e; simp at this; exact this.1)
        have HNO := Lib.hid hno
        clear hno
        gi_wp2_with fail
        exact ⟨(KeepsOthers.setCell W ⟨w.heap.size + 1, 0, none⟩ _).from _, .inl ⟨rfl, HNO.out⟩⟩
    case done =>
      rintro D ys W hD hys ⟨⟨hN, hp⟩, hB⟩ hK
      have hyl : ys.length = ss.length := by rw [hys, prs_length]
      rw [hyl] at hN
      clear hp hys hyl
      have hcn := hN.cell
      have hcs := (hB.cell (p := ⟨sb, 0, none⟩) ks5).trans cs6
      have hcm := (hB.cell (p := ⟨w.heap.size, 0, none⟩) (by simp only; omega)).trans cm6
      have hcr := (hB.cell (p := ⟨w.heap.size + 1, 0, none⟩) (by simp only; omega)).trans cr6
      have hfr := (hB.frozen (p := ⟨w.heap.size + 1, 0, none⟩) (by simp only; omega)).trans fr6
      clear hN cs6 cn6 cm6 cr6 fr6 hRN6
      have HB := Lib.hid hB
      have HK := Lib.hid hK
      clear hB hK
      gi_wp2_with fail
      refine ⟨trivial, ?_⟩
      refine (callsIn_wide.2 (awake_any _)).mono ?_
      rintro e w9 ⟨rfl, hb9⟩
      have hWs := HB.out.size
      have c9 := (hb9.cell (p := ⟨w.heap.size + 1, 0, none⟩) (by simp only; omega)).trans hcr
      have f9 := (hb9.frozen (p := ⟨w.heap.size + 1, 0, none⟩) (by simp only; omega)).trans hfr
      have hK9 : w9.heap[D]? = some (.deferred (some [])) := (hb9.block D (Array.getElem?_eq_some_iff.1 HK.out).1).trans HK.out
      have HB9 := Lib.hid (HX6.out.trans ((HB.out.mono (by omega)).trans (hb9.mono (by have := HX6.out.size; omega))))
      have HK9 := Lib.hid hK9
      clear hb9 hcr hfr hK9 HK HB
      gi_wp2
      have hK' := (KeepsOthers.setCell w9 ⟨w.heap.size + 1, 0, none⟩ (.bool true)).same D _ HK9.out rfl
      refine ⟨by simp, .inl ⟨_, _, rfl, run_takeDeferred hK', ?_⟩⟩
      have hc5 := cell_kept (World.cell?_setCell_same' w9 ⟨w.heap.size + 1, 0, none⟩ (.bool true) (by rw [c9]; rfl)) (grownBy_putObj' _ D (.deferred none)) (fun r e => by cases e; exact ⟨_, hK', rfl⟩)
      refine ⟨.bool true, ?_, rfl, (HB9.out.setCell (p := ⟨w.heap.size + 1, 0, none⟩) (Nat.le_succ _) _).trans (belowK_b (w := w) (Nat.le_refl _) _ D _ _ (by omega) hK' rfl rfl)⟩
      simp [results, Try.f8, go_sem, hc5]
    case stop =>
      rintro D co pre W hD ⟨k, hk, hpk⟩ (⟨rfl, hne⟩ | ⟨rfl, hN, hB⟩) hK
      · exact absurd hpk (hne k)
      clear hpk hk
      have hcn := hN.cell
      have hcs := (hB.cell (p := ⟨sb, 0, none⟩) ks5).trans cs6
      have hcm := (hB.cell (p := ⟨w.heap.size, 0, none⟩) (by simp only; omega)).trans cm6
      have hcr := (hB.cell (p := ⟨w.heap.size + 1, 0, none⟩) (by simp only; omega)).trans cr6
      have hfr := (hB.frozen (p := ⟨w.heap.size + 1, 0, none⟩) (by simp only; omega)).trans fr6
      clear hN cs6 cn6 cm6 cr6 fr6 hRN6
      by_cases hq : most = (ss.length : Int)
      · subst hq
        have HB := Lib.hid hB
        have HK := Lib.hid hK
        clear hB hK
        gi_wp2_with fail
        refine ⟨trivial, ?_⟩
        refine (callsIn_wide.2 (awake_any _)).mono ?_
        rintro e w9 ⟨rfl, hb9⟩
        have hWs := HB.out.size
        have c9 := (hb9.cell (p := ⟨w.heap.size + 1, 0, none⟩) (by simp only; omega)).trans hcr
        have f9 := (hb9.frozen (p := ⟨w.heap.size + 1, 0, none⟩) (by simp only; omega)).trans hfr
        have hK9 : w9.heap[D]? = some (.deferred (some [])) := (hb9.block D (Array.getElem?_eq_some_iff.1 HK.out).1).trans HK.out
        have HB9 := Lib.hid (HX6.out.trans ((HB.out.mono (by omega)).trans (hb9.mono (by have := HX6.out.size; omega))))
        have HK9 := Lib.hid hK9
        clear hb9 hcr hfr hK9 HK HB
        gi_wp2
        have hK' := (KeepsOthers.setCell w9 ⟨w.heap.size + 1, 0, none⟩ (.bool true)).same D _ HK9.out rfl
        refine ⟨by simp, .inl ⟨_, _, rfl, run_takeDeferred hK', ?_⟩⟩
        have hc5 := cell_kept (World.cell?_setCell_same' w9 ⟨w.heap.size + 1, 0, none⟩ (.bool true) (by rw [c9]; rfl)) (grownBy_putObj' _ D (.deferred none)) (fun r e => by cases e; exact ⟨_, hK', rfl⟩)
        refine ⟨.bool true, ?_, rfl, (HB9.out.setCell (p := ⟨w.heap.size + 1, 0, none⟩) (Nat.le_succ _) _).trans (belowK_b (w := w) (Nat.le_refl _) _ D _ _ (by omega) hK' rfl rfl)⟩
        simp [results, Try.f8, go_sem, hc5]
      · have HB := Lib.hid hB
        have HK := Lib.hid hK
        clear hB hK
        gi_wp2_with fail
        refine ⟨trivial, ?_⟩
        refine (callsIn_wide.2 (awake_any _)).mono ?_
        rintro e w9 ⟨rfl, hb9⟩
        have hWs := HB.out.size
        have c9 := (hb9.cell (p := ⟨w.heap.size + 1, 0, none⟩) (by simp only; omega)).trans hcr
        have f9 := (hb9.frozen (p := ⟨w.heap.size + 1, 0, none⟩) (by simp only; omega)).trans hfr
        have hK9 : w9.heap[D]? = some (.deferred (some [])) := (hb9.block D (Array.getElem?_eq_some_iff.1 HK.out).1).trans HK.out
        have HB9 := Lib.hid (HX6.out.trans ((HB.out.mono (by omega)).trans (hb9.mono (by have := HX6.out.size; omega))))
        have HK9 := Lib.hid hK9
        clear hb9 hcr hfr hK9 HK HB
        gi_wp2
        have hK' := (KeepsOthers.setCell w9 ⟨w.heap.size + 1, 0, none⟩ (.bool true)).same D _ HK9.out rfl
        refine ⟨by simp, .inl ⟨_, _, rfl, run_takeDeferred hK', ?_⟩⟩
        have hc5 := cell_kept (World.cell?_setCell_same' w9 ⟨w.heap.size + 1, 0, none⟩ (.bool true) (by rw [c9]; rfl)) (grownBy_putObj' _ D (.deferred none)) (fun r e => by cases e; exact ⟨_, hK', rfl⟩)
        refine ⟨.bool true, ?_, rfl, (HB9.out.setCell (p := ⟨w.heap.size + 1, 0, none⟩) (Nat.le_succ _) _).trans (belowK_b (w := w) (Nat.le_refl _) _ D _ _ (by omega) hK' rfl rfl)⟩
        simp [results, Try.f8, go_sem, hc5]
  · have HE := Lib.hid hE
    have hne : (newE [] ss != 0) = true := by rw [bne_iff_ne]; exact hE
    generalize hg : newE [] ss = E at *
    clear hE
    refine ⟨trivial, ?_⟩
    refine (callsIn_wide.2 (new_err HR.out (by omega) HSZ.out (by rw [hg]; exact HE.out))).mono ?_
    rw [hg]
    rintro e w1 ⟨rfl, hb1⟩
    have HB1 := Lib.hid hb1
    have HR1 := Lib.hid (HR.out.up hb1)
    clear hb1
    gi_wp2_with fail
    refine ⟨trivial, ?_⟩
    refine (callsIn_wide.2 (rnew_err HR1.out (by omega) HSZ.out (by rw [hg]; exact HE.out))).mono ?_
    rw [hg]
    rintro e w2 ⟨rfl, hb2⟩
    have s1 := HB1.out.size
    have s2 := hb2.size
    have HB2 := Lib.hid (HB1.out.trans (((hb2.mono s1).trans ((Below.refl _ _).alloc (by omega) (.cells #[.slice none 0 0] 31)))))
    clear hb2
    gi_wp2_with fail
    refine ⟨trivial, ?_⟩
    refine (callsIn_wide.2 (awake_any _)).mono ?_
    rintro e w5 ⟨rfl, hb5⟩
    have HB5 := HB2.out.trans (hb5.mono HB2.out.size)
    have c5 := (HB5.cell (p := ⟨w.heap.size + 1, 0, none⟩) l1).trans c1
    have f5 := (HB5.frozen (p := ⟨w.heap.size + 1, 0, none⟩) l1).trans f1
    have HB6 := Lib.hid (HB0.out.trans (HB5.mono HB0.out.size))
    clear hb5 c1 f1 HB5
    gi_wp2_with fail
    have c6 := World.cell?_setCell_same' w5 ⟨w.heap.size + 1, 0, none⟩ (.bool true) (by rw [c5]; rfl)
    refine ⟨.bool true, ?_, rfl, HB6.out.setCell (p := ⟨w.heap.size + 1, 0, none⟩) (Nat.le_succ _) _⟩
    simp [results, Try.f8, go_sem, c6]

theorem own : ownKnob Try.prog.godebug = none := by kernel_rfl
theorem laidOut : laidOutB Try.prog = true := by kernel_rfl
set_option maxRecDepth 100000 in
theorem lifted (os : Os) (started : os.Started) (H : Type) (enc : TypeId × Value → H) :
    ReturnsInHanded {} Try.checked os 8 .any (Rows.identAllSpec.pre6 enc Try.prog Try.f8 Rows.identAllRow.domain false) (Rows.identAllSpec.post enc Try.prog Try.f8 false true false false) := by
  refine returnsInHanded_of_change (C := Try.checked) own started (by kernel_rfl) Try.func8
    (ChangeSpec.witness6 (enc := enc) (C := Try.checked) false ⟨#[], #[.slice none 0 0, .string ⟨#[]⟩, .int .i64 0], []⟩ 8 (by kernel_rfl) (by kernel_rfl) (by kernel_rfl) (by kernel_rfl)) ?_
  intro W base args ds gs before hval0 hW hcnd _
  have hval : ∀ (j : Nat) t v, Try.f8.params[j]? = some t → args[j]? = some v → Value.okWide Try.prog W .any base t v := hval0
  have hW' := hW
  obtain ⟨p, q, hA0, hV, rfl, hfz, hnd⟩ := hW
  have hA : DataW.TrodAll enc Try.prog W 0 (fun _ => true) true Try.f8.params.toList args.toList ds p := hA0
  rw [Try.params8] at hA hval
  obtain ⟨v0, vs0, d0, ds0, p0, q0, hargs, rfl, rfl, h0, r0⟩ := trodAll_cons hA
  obtain ⟨v1, vs1, d1, ds1, p1, q1, rfl, rfl, rfl, h1, r1⟩ := trodAll_cons r0
  obtain ⟨v2, vs2, d2, ds2, p2, q2, rfl, rfl, rfl, h2, r2⟩ := trodAll_cons r1
  obtain ⟨rfl, rfl, rfl⟩ := trodAll_nil r2
  obtain rfl : args = #[v0, v1, v2] := by cases args; simp_all
  obtain ⟨rfl, rfl⟩ := trodVars_none hV
  have k0 := h0
  have lt0 : ∀ x ∈ p0, x.block < W.heap.size := by obtain ⟨m, hm⟩ := k0; exact DataW.trod_lt m _ _ _ hm
  have O0 := open_strs W (hval 0 24 v0 rfl rfl) h0
  have k1 := h1
  have lt1 : ∀ x ∈ p1, x.block < W.heap.size := by obtain ⟨m, hm⟩ := k1; exact DataW.trod_lt m _ _ _ hm
  have O1 := open_string W (hval 1 9 v1 rfl rfl) h1
  have k2 := h2
  have lt2 : ∀ x ∈ p2, x.block < W.heap.size := by obtain ⟨m, hm⟩ := k2; exact DataW.trod_lt m _ _ _ hm
  have O2 := open_int W (hval 2 3 v2 rfl rfl) h2
  clear hA0 hval0
  refine (walk W v0 O0 v1 O1 v2 O2).mono fun e W' ⟨he, bel⟩ => ?_
  subst he
  exact ⟨_, rfl, _, _, _, [], _, [], hW', trodAll_mk1 (shut_bool Try.underlying4 _), (trodAll_cons_mk (Below.trod laidOut (by kernel_rfl) (of_decide_eq_true (by kernel_rfl)) k0 bel lt0) (trodAll_cons_mk (Below.trod laidOut (by kernel_rfl) (of_decide_eq_true (by kernel_rfl)) k1 bel lt1) (trodAll_cons_mk (Below.trod laidOut (by kernel_rfl) (of_decide_eq_true (by kernel_rfl)) k2 bel lt2) trodAll_mk0))), rfl, bel.frame _, fun h => by cases h⟩
theorem over : Rows.identAllRow.holds Try.pinned (OpenSpec.ofChange Rows.identAllSpec) :=
  OpenClaim.holds_of_wide 8 Try.f8 rfl rfl rfl rfl rfl rfl rfl ⟨rfl, rfl, rfl, rfl, rfl⟩ rfl rfl rfl rfl rfl (by kernel_rfl) Try.func8 (by kernel_rfl)
    (of_decide_eq_true (by kernel_rfl)) (by unfold Func.isWrapper; first | (rw [if_pos (by decide +kernel)]; kernel_rfl) | (rw [if_neg (by decide +kernel)]; exact ⟨rfl, rfl⟩))
    (fun os started H enc _ => lifted os started H enc)
theorem proved : Rows.IdentAllSaid := over
#print axioms proved

end Go.Proofs.Ytonlalfdpggioaa.identAll
