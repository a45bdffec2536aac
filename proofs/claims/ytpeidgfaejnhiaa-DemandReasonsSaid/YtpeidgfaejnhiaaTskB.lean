/- Contracts of task.fills and of the reference's fills. -/
import Derived.Test.YtpeidgfaejnhiaaTskA
namespace Go.Proofs.Ytpeidgfaejnhiaa
open Go.RowKit Go.Maps

theorem RdT.take {α : Type} {w : World} {S : Nat → Prop} {size : Nat} {cs : α → List Value} {A : Option Addr} {n j : Nat} {L : List α} (h : RdT w S size cs A n L) (hj : j ≤ n) : RdT w S size cs A j (L.take j) :=
  ⟨by rw [List.length_take, h.1]; omega, fun h0 => by
    obtain ⟨b, o, e, hb, hc⟩ := h.2 (by omega)
    refine ⟨b, o, e, hb, fun i x hx k u hu => hc i x ?_ k u hu⟩
    have hij : i < j := by
      rcases Nat.lt_or_ge i j with h1 | h1
      · exact h1
      · rw [List.getElem?_eq_none (by rw [List.length_take]; omega)] at hx; cases hx
    rwa [List.getElem?_take_of_lt hij] at hx⟩
theorem fils_err {C : List Con} {F : List Fil} {k : Nat} {x : Fil} {v : Int} (h : ¬ 256 < F.length) (hE : firstE ((F.map (filE C)).take k) = 0) (hx : F[k]? = some x) (he : filE C x = v) (hv : v ≠ 0) : filsE C F = v := by
  have h1 := firstE_take hE (show (F.map (filE C))[k]? = some (filE C x) by simp [hx])
  have h2 := firstE_stop (l := F.map (filE C)) (k := k + 1) (by rw [h1, he]; exact hv)
  unfold filsE
  have e1 : firstE (F.map (filE C)) = v := by rw [h2, h1, he]
  rw [if_neg h, if_pos (by rw [e1]; exact hv), e1]
theorem fils_dup {C : List Con} {F : List Fil} (h : ¬ 256 < F.length) (hE : firstE (F.map (filE C)) = 0) : filsE C F = if (F.map Fil.con).Nodup then 0 else 6 := by
  unfold filsE
  rw [if_neg h, if_neg (by rw [hE]; decide)]
theorem any_con {F : List Fil} {j : Nat} {x : Int} : ((F.take j).any fun y => decide (y.con = x)) = decide (x ∈ (F.map Fil.con).take j) := by
  rw [← List.map_take]
  by_cases h : x ∈ (F.take j).map Fil.con
  · rw [decide_eq_true h]
    obtain ⟨y, hy, rfl⟩ := List.mem_map.1 h
    exact List.any_eq_true.2 ⟨y, hy, by simp⟩
  · rw [decide_eq_false h]
    rw [List.any_eq_false]
    intro y hy e
    exact h (List.mem_map.2 ⟨y, hy, by simpa using e⟩)

set_option maxHeartbeats 400000 in
theorem same_con (x : Fil) (con : Int) (B : Nat) (W : World) (hB : W.cell? ⟨B, 0, none⟩ = some (.int .i64 con)) :
    Calls Try.prog 55 #[.agg x.vs, .pointer (some ⟨B, 0, none⟩)] W fun e w' => e = .returned (.bool (decide (x.con = con))) ∧ w' = W.alloc (.cells x.vs 53) := by
  have hlt : B < W.heap.size := World.block_lt_of_cell? _ _ hB
  have hB' : (W.alloc (.cells x.vs 53)).cell? ⟨B, 0, none⟩ = some (.int .i64 con) := (World.cell?_alloc_lt W _ ⟨B, 0, none⟩ hlt).trans hB
  obtain ⟨c, lo, hi⟩ := x
  by_cases h : c = con
  · subst h
    go_enter Try.func55, Try.ntmps55
    go_wp2
    go_ret
    exact ⟨ret_bool (by simp), rfl⟩
  · have he : (c == con) = false := by simpa using h
    have H := Lib.hid h
    clear h
    go_enter Try.func55, Try.ntmps55
    go_wp2
    go_ret
    exact ⟨ret_bool (by simp [H.out]), rfl⟩
theorem contains_val {b : Bool} {w : World} {A : Option Addr} {n c : Nat} {L : List Fil} {con : Int} {B : Nat} (hb : (L.any fun y => decide (y.con = con)) = b) (h : RdT w (· < w.heap.size) 3 Fil.cs A n L) (hn : n ≤ maxLen) (hB : w.cell? ⟨B, 0, none⟩ = some (.int .i64 con)) :
    Calls Try.prog 54 #[.slice A n c, .func (.func 55) #[] #[.pointer (some ⟨B, 0, none⟩)]] w fun e w' => e = .returned (.bool b) ∧ Below w.heap.size w w' := by
  rw [← hb]
  have hlt : B < w.heap.size := World.block_lt_of_cell? _ _ hB
  exact contains_fil h hn (enters_of Try.func55 (by kernel_rfl) rfl) fun x _ W hW =>
    (same_con x con B W ((hW.cell (p := ⟨B, 0, none⟩) hlt).trans hB)).mono fun e w' ⟨he, hw⟩ => ⟨he, by rw [hw]; exact (Below.refl _ _).alloc (Nat.le_refl _) _⟩

set_option maxRecDepth 100000 in
set_option maxHeartbeats 3200000 in
theorem tfils_any {w : World} {T : Tri} (h : T.In w) (day level : Int) :
    Calls Try.prog 45 #[.agg (T.ts day level)] w fun e w' => e = .returned (.int .i64 (filsE T.C T.F)) ∧ Below w.heap.size w w' := by
  have hf := h.f
  have hn := h.fn
  have hfc := h.fcap
  have hc := h.c
  have hcn := h.cn
  have hlen := hf.1
  have hlc := hc.1
  unfold maxLen at hn hcn
  have K0 : Hid (Blk (w.alloc (.cells (T.ts day level) 69)) w.heap.size 69 (T.ts day level)) := Lib.hid (Blk.new _ _ _)
  clear h
  by_cases h256 : 256 < T.nF
  · have hE : filsE T.C T.F = 8 := if_pos (by rw [hlen]; exact h256)
    rw [hE]
    clear hE hf hn hc hlen K0 hlc hcn
    obtain ⟨AC, nC, cC, C, AS, nS, cS, S, AF, nF, cF, F⟩ := T
    simp only at h256 hfc ⊢
    go_enter Try.func45, Try.ntmps45
    go_wp2
    go_ret
    exact ⟨rfl, by go_grown⟩
  have H256 : Hid (¬ 256 < T.F.length) := Lib.hid (by rw [hlen]; exact h256)
  have n256 : T.nF ≤ 256 := by omega
  have HL := Lib.hid hlen
  have HLC := Lib.hid hlc
  have HM := Lib.hid hf
  have HC := Lib.hid hc
  have HE1 : Hid (∀ k x v, firstE ((T.F.map (filE T.C)).take k) = 0 → T.F[k]? = some x → filE T.C x = v → v ≠ 0 → filsE T.C T.F = v) := Lib.hid fun k p v a b c d => fils_err H256.out a b c d
  have HE2 : Hid (firstE (T.F.map (filE T.C)) = 0 → filsE T.C T.F = if (T.F.map Fil.con).Nodup then 0 else 6) := Lib.hid fun a => fils_dup H256.out a
  obtain ⟨E, hEE⟩ : ∃ E, filsE T.C T.F = E := ⟨_, rfl⟩
  rw [hEE] at HE1 HE2 ⊢
  clear hf hn hc hlen hlc h256 H256 hEE
  obtain ⟨AC, nC, cC, C, AS, nS, cS, S, AF, nF, cF, F⟩ := T
  simp only at n256 hfc hcn HL HLC HM HC K0 HE1 HE2 ⊢
  go_enter Try.func45, Try.ntmps45
  go_wp2
  obtain ⟨w0, hw0, hb0⟩ : ∃ w0, w.alloc (.cells #[.slice AC nC cC, .slice AS nS cS, .slice AF nF cF, .int .i64 day, .int .i64 level] 69) = w0 ∧ Below w.heap.size w w0 := ⟨_, rfl, by go_grown⟩
  have hs0 : w0.heap.size = w.heap.size + 1 := by rw [← hw0]; simp
  rw [hw0] at K0 ⊢
  have HB0 := Lib.hid hb0
  clear hw0 hb0
  go_loopw [14] (fun i wr => ∃ k : Nat, k ≤ nF ∧ i = .int .i64 (k : Nat) ∧ firstE ((F.map (filE C)).take k) = 0 ∧ Below w0.heap.size w0 wr) (fun i _ => nF - (intOf i).toNat)
  case atStart => exact ⟨0, Nat.zero_le _, rfl, rfl, Below.refl _ _⟩
  case round =>
    obtain ⟨k, hk, rfl, hE, hbel⟩ := hrel
    have HE := Lib.hid hE
    have HB := Lib.hid hbel
    have HBW := Lib.hid (bthen HB0.out hbel (by omega))
    have kr := K0.out.grow hbel
    have q0 := kr.cell 0
    have q1 := kr.cell 1
    have q2 := kr.cell 2
    have q3 := kr.cell 3
    have q4 := kr.cell 4
    have hzr := kr.lt
    simp at q0 q1 q2 q3 q4
    clear hE hbel kr
    by_cases hlt : k < nF
    · obtain ⟨x, hx⟩ := at_lt (l := F) (k := k) (by rw [HL.out]; exact hlt)
      obtain ⟨con, lo, hi⟩ := x
      obtain ⟨b, o, rfl, hb, hc⟩ := HM.out.2 (by omega)
      have hcx := (HM.out.cells_ hlt hx HBW.out).2
      have c0 := hcx 0 _ rfl
      rw [Nat.add_zero] at c0
      have c1 := hcx 1 _ rfl
      have c2 := hcx 2 _ rfl
      clear hcx hc
      have HX1 := Lib.hid (firstE_take HE.out (show (F.map (filE C))[k]? = some (filE C ⟨con, lo, hi⟩) by simp [hx]))
      have HX := Lib.hid hx
      clear hx
      cases hi' : inB nC con
      · have HI := Lib.hid hi'
        clear hi'
        go_wp2_with (go_at_call 35; ((with_reducible refine (tidx_val HI.out _ _ _ _ _ _ _ _ _ _ _).mono ?_); rintro e w' ⟨rfl, rfl⟩))
        go_ret
        exact ⟨ret_int (HE1.out k _ 7 HE.out HX.out (by unfold filE; rw [if_pos (by have := inB_not.1 HI.out; rw [HLC.out]; simp only; omega)]) (by decide)).symm, bthen HBW.out (by go_grown) HBW.out.size⟩
      have HI := Lib.hid hi'
      obtain ⟨j0, j1⟩ := inB_iff.1 hi'
      clear hi'
      obtain ⟨ci, rfl⟩ := Int.eq_ofNat_of_zero_le j0
      have hci : ci < nC := by omega
      obtain ⟨y, hy⟩ := at_lt (l := C) (k := ci) (by rw [HLC.out]; exact hci)
      obtain ⟨id, kind, lit, gr, node⟩ := y
      obtain ⟨b2, o2, rfl, hb2, hc2⟩ := HC.out.2 (by omega)
      have hcy := (HC.out.cells_ hci hy HBW.out).2
      have d3 := hcy 3 _ rfl
      simp at d3
      have hbr2 : b2 < wr.heap.size := Nat.lt_of_lt_of_le hb2 HBW.out.size
      have HEV : Hid (filE C ⟨(ci : Int), lo, hi⟩ = if lo < 0 ∨ hi < lo ∨ gr < hi then 1 else 0) := Lib.hid (by
        unfold filE
        rw [if_neg (by rw [HLC.out]; simp only; omega), grAt_is hy])
      clear hcy hc2 hy j0
      by_cases h1 : lo < 0
      · go_wp2_with (go_at_call 35; ((with_reducible refine (tidx_val HI.out _ _ _ _ _ _ _ _ _ _ _).mono ?_); rintro e w' ⟨rfl, rfl⟩))
        go_quiet (fail)
        go_wp2
        go_ret
        exact ⟨ret_int (HE1.out k _ 1 HE.out HX.out (by rw [HEV.out, if_pos (by omega)]) (by decide)).symm, belowN (bthen HBW.out (by go_grown) HBW.out.size) _⟩
      have e1 : decide (lo < 0) = false := decide_eq_false h1
      by_cases h2 : hi < lo
      · go_wp2_with (go_at_call 35; ((with_reducible refine (tidx_val HI.out _ _ _ _ _ _ _ _ _ _ _).mono ?_); rintro e w' ⟨rfl, rfl⟩))
        go_quiet (fail)
        go_wp2
        go_ret
        exact ⟨ret_int (HE1.out k _ 1 HE.out HX.out (by rw [HEV.out, if_pos (by omega)]) (by decide)).symm, belowN (bthen HBW.out (by go_grown) HBW.out.size) _⟩
      have e2 : decide (hi < lo) = false := decide_eq_false h2
      by_cases h3 : gr < hi
      · go_wp2_with (go_at_call 35; ((with_reducible refine (tidx_val HI.out _ _ _ _ _ _ _ _ _ _ _).mono ?_); rintro e w' ⟨rfl, rfl⟩))
        go_quiet (fail)
        go_wp2
        go_ret
        exact ⟨ret_int (HE1.out k _ 1 HE.out HX.out (by rw [HEV.out, if_pos (by omega)]) (by decide)).symm, belowN (bthen HBW.out (by go_grown) HBW.out.size) _⟩
      have e3 : decide (gr < hi) = false := decide_eq_false h3
      go_wp2_with (go_at_call 35; ((with_reducible refine (tidx_val HI.out _ _ _ _ _ _ _ _ _ _ _).mono ?_); rintro e w' ⟨rfl, rfl⟩))
      go_quiet (fail)
      go_wp2
      go_roundw
      case rel => exact ⟨k + 1, by omega, by go_num, by rw [HX1.out, HEV.out, if_neg (by omega)], belowN (bthen HB.out (by go_grown) HB.out.size) _⟩
      case measure => simp [intOf]; omega
    · have e : k = nF := by omega
      subst e
      have hE0 : firstE (F.map (filE C)) = 0 := by
        have := HE.out
        rwa [List.take_of_length_le (by rw [List.length_map, HL.out]; exact Nat.le_refl _)] at this
      have HE0 := Lib.hid (HE2.out hE0)
      obtain ⟨wo, rfl⟩ : ∃ wo : World, wo = wr := ⟨_, rfl⟩
      clear hE0 q0 q1 q3 q4
      go_wp2
      go_loopw [53] (fun i wx => ∃ j : Nat, j ≤ k ∧ i = .int .i64 (j : Nat) ∧ ((F.map Fil.con).take j).Nodup ∧ Below w0.heap.size w0 wx) (fun i _ => k - (intOf i).toNat)
      case atStart => exact ⟨0, Nat.zero_le _, rfl, List.nodup_nil, HB.out⟩
      case round =>
        obtain ⟨j, hj, rfl, hnd1, hbel⟩ := hrel
        have N1 := Lib.hid hnd1
        have HBL := Lib.hid hbel
        have HBW2 := Lib.hid (bthen HB0.out hbel (by omega))
        have kr := K0.out.grow hbel
        have p2 := kr.cell 2
        have hzx := kr.lt
        simp at p2
        clear hnd1 hbel kr q2
        by_cases hlt2 : j < k
        · obtain ⟨x, hx⟩ := at_lt (l := F) (k := j) (by rw [HL.out]; exact hlt2)
          obtain ⟨con, lo, hi⟩ := x
          obtain ⟨b, o, rfl, hb, hc⟩ := HM.out.2 (by omega)
          have hcx := (HM.out.cells_ hlt2 hx HBW2.out).2
          have c0 := hcx 0 _ rfl
          rw [Nat.add_zero] at c0
          have c1 := hcx 1 _ rfl
          have c2 := hcx 2 _ rfl
          clear hcx hc
          have i1 : Hid ((F.map Fil.con)[j]? = some con) := Lib.hid (by simp [hx])
          have x1 : (0 : Int) ≤ (j : Int) := by omega
          have x2 : (j : Int) ≤ (cF : Int) := by omega
          have HBX : Hid (Below w.heap.size w (wr.alloc (.cells #[.int .i64 con, .int .i64 lo, .int .i64 hi] 53))) := Lib.hid (bthen HBW2.out (by go_grown) HBW2.out.size)
          have HTK := Lib.hid ((HM.out.up HBX.out).take (Nat.le_of_lt hlt2))
          have HNM : Hid (j ≤ maxLen) := Lib.hid (by unfold maxLen; omega)
          have KX : Hid ((wr.alloc (.cells #[.int .i64 con, .int .i64 lo, .int .i64 hi] 53)).cell? ⟨wr.heap.size, 0, none⟩ = some (.int .i64 con)) := Lib.hid ((Blk.new wr 53 #[.int .i64 con, .int .i64 lo, .int .i64 hi]).cell 0)
          clear hx
          by_cases m1 : con ∈ (F.map Fil.con).take j
          · have M1 := Lib.hid m1
            have MA := Lib.hid (any_con.trans (decide_eq_true m1))
            clear m1
            go_wp2_with (go_at_call 54; ((with_reducible refine (contains_val MA.out HTK.out HNM.out KX.out).mono ?_); rintro e w1 ⟨rfl, hb1⟩; have HB1 := Lib.hid hb1; clear hb1))
            go_ret
            exact ⟨ret_int (by rw [HE0.out, if_neg (fun h => nod_not i1.out M1.out h)]), bthen HBX.out HB1.out HBX.out.size⟩
          · have M1 := Lib.hid m1
            have MA := Lib.hid (any_con.trans (decide_eq_false m1))
            clear m1
            go_wp2_with (go_at_call 54; ((with_reducible refine (contains_val MA.out HTK.out HNM.out KX.out).mono ?_); rintro e w1 ⟨rfl, hb1⟩; have HB1 := Lib.hid hb1; clear hb1))
            go_roundw
            case rel => exact ⟨j + 1, by omega, by go_num, nod_step N1.out i1.out M1.out, bthen (bthen HBL.out (by go_grown) HBL.out.size) HB1.out (by have := HBL.out.size; simp; omega)⟩
            case measure => simp [intOf]; omega
        · have e : j = k := by omega
          subst e
          have hn1 : (F.map Fil.con).Nodup := by
            have := N1.out
            rwa [List.take_of_length_le (by rw [List.length_map, HL.out]; exact Nat.le_refl _)] at this
          have HN := Lib.hid hn1
          clear hn1
          go_wp2
          go_ret
          exact ⟨ret_int (by rw [HE0.out, if_pos HN.out]), HBW2.out⟩
end Go.Proofs.Ytpeidgfaejnhiaa
