/- The contract of schedule.Check, of the program. -/
import Derived.Test.YtpeidgfaejnhiaaSchA
namespace Go.Proofs.Ytpeidgfaejnhiaa
open Go.RowKit Go.Maps

set_option maxRecDepth 100000 in
set_option maxHeartbeats 3200000 in
theorem sch_any {w : World} (s : Sch) (h : SchIn w s) :
    Calls Try.prog 28 #[.agg s.vs] w fun e w' => e = .returned (.int .i64 (schE s)) ∧ Below w.heap.size w w' := by
  obtain ⟨hm, hn, hok⟩ := h
  have hlen := hm.1
  by_cases hr : schR s
  · have hE : schE s = 1 := if_pos hr
    rw [hE]
    clear hE hm hn hok hlen
    unfold schR at hr
    obtain ⟨con, st, ev, A, n, c, mv⟩ := s
    simp only at hr ⊢
    cases hd : dayB st
    · have HD := Lib.hid hd
      clear hr hd
      go_enter Try.func28, Try.ntmps28
      go_wp2_with (go_at_call 41; refine (day_val HD.out _).mono ?_; rintro e w' ⟨rfl, rfl⟩)
      all_goals (go_ret; exact ⟨rfl, by go_grown⟩)
    · have HD := Lib.hid hd
      have hr' : con < 0 ∨ 256 ≤ con ∨ ev < 1 ∨ 365 < ev := by
        rcases hr with h | h | h | h | h
        · exact .inl h
        · exact .inr (.inl h)
        · rw [hd] at h; cases h
        · exact .inr (.inr (.inl h))
        · exact .inr (.inr (.inr h))
      clear hr hd
      go_enter Try.func28, Try.ntmps28
      go_wp2_with (go_at_call 41; refine (day_val HD.out _).mono ?_; rintro e w' ⟨rfl, rfl⟩)
      all_goals first | (exfalso; omega) | (go_ret; exact ⟨rfl, by go_grown⟩)
  have HR := Lib.hid hr
  have HST := Lib.hid (stev_of hr)
  have hday : dayB s.start = true := by
    cases e : dayB s.start
    · exact absurd (.inr (.inr (.inl e))) hr
    · rfl
  have HDAY := Lib.hid hday
  unfold schR at hr
  have r1 : 0 ≤ s.con := by omega
  have r2 : s.con < 256 := by omega
  have r3 : 1 ≤ s.every := by omega
  have r4 : s.every ≤ 365 := by omega
  clear hr hday
  by_cases h32 : 32 < s.n
  · have hE : schE s = 8 := by unfold schE; rw [if_neg HR.out, if_pos (by rw [hlen]; exact h32)]
    rw [hE]
    clear hE hm hn hok hlen HR HST
    obtain ⟨con, st, ev, A, n, c, mv⟩ := s
    simp only at r1 r2 r3 r4 h32 ⊢
    go_enter Try.func28, Try.ntmps28
    go_wp2_with (go_at_call 41; refine (day_val HDAY.out _).mono ?_; rintro e w' ⟨rfl, rfl⟩)
    all_goals first | (exfalso; omega) | (go_ret; exact ⟨rfl, by go_grown⟩)
  have H32 : Hid (¬ 32 < s.mv.length) := Lib.hid (by rw [hlen]; exact h32)
  have n32 : s.n ≤ 32 := by omega
  have HL := Lib.hid hlen
  have HM := Lib.hid hm
  have HOK := Lib.hid hok
  have K0 : Hid (Blk (w.alloc (.cells s.vs 45)) w.heap.size 45 s.vs) := Lib.hid (Blk.new _ _ _)
  have HE1 : Hid (∀ k p v, firstE ((s.mv.map (mvE s.start s.every)).take k) = 0 → s.mv[k]? = some p → mvE s.start s.every p = v → v ≠ 0 → schE s = v) := Lib.hid fun k p v a b c d => sch_err HR.out H32.out a b c d
  have HE2 : Hid (firstE (s.mv.map (mvE s.start s.every)) = 0 → schE s = if (s.mv.map (·.1)).Nodup ∧ (s.mv.map (·.2)).Nodup then 0 else 6) := Lib.hid fun a => sch_dup HR.out H32.out a
  obtain ⟨E, hEE⟩ : ∃ E, schE s = E := ⟨_, rfl⟩
  rw [hEE] at HE1 HE2 ⊢
  clear hlen hm hn hok h32 HR H32 hEE
  obtain ⟨con, st, ev, A, n, c, mv⟩ := s
  simp only at r1 r2 r3 r4 n32 HDAY HST HL HM HOK HE1 HE2 K0 ⊢
  have hmm := @run_makeMap Try.prog
  go_enter Try.func28, Try.ntmps28
  go_wp2_with (go_at_call 41; refine (day_val HDAY.out _).mono ?_; rintro e w' ⟨rfl, rfl⟩)
  all_goals first | (exfalso; omega) | skip
  obtain ⟨w0, hw0, hb0⟩ : ∃ w0, w.alloc (.cells #[.int .i64 con, .int .i64 st, .int .i64 ev, .slice A n c] 45) = w0 ∧ Below w.heap.size w w0 := ⟨_, rfl, by go_grown⟩
  have hs0 : w0.heap.size = w.heap.size + 1 := by rw [← hw0]; simp
  rw [hw0] at K0 ⊢
  have HB0 := Lib.hid hb0
  clear hw0 hb0
  go_loopw [40] (fun i wr => ∃ k : Nat, k ≤ n ∧ i = .int .i64 (k : Nat) ∧ firstE ((mv.map (mvE st ev)).take k) = 0 ∧ Below w0.heap.size w0 wr) (fun i _ => n - (intOf i).toNat)
  case atStart => exact ⟨0, Nat.zero_le _, rfl, rfl, Below.refl _ _⟩
  case round =>
    obtain ⟨k, hk, rfl, hE, hbel⟩ := hrel
    have HE := Lib.hid hE
    have HB := Lib.hid hbel
    have HBW := Lib.hid (bthen HB0.out hbel (by omega))
    have kr := K0.out.grow hbel
    have q0 := kr.cell 0
    have q1 := kr.cell 1
    have q2 := kr.cell 2
    have q3 := kr.cell 3
    have hzr := kr.lt
    simp at q0 q1 q2 q3
    clear hE hbel kr
    by_cases hlt : k < n
    · obtain ⟨p, hp⟩ := at_lt (l := mv) (k := k) (by rw [HL.out]; exact hlt)
      obtain ⟨fr, to_⟩ := p
      obtain ⟨b, o, rfl, hb, hc⟩ := HM.out.2 (by omega)
      have hcx := (HM.out.cells_ hlt hp HBW.out).2
      have c0 := hcx 0 _ rfl
      rw [Nat.add_zero] at c0
      have c1 := hcx 1 _ rfl
      clear hcx hc
      have HP := Lib.hid hp
      have HX1 := Lib.hid (firstE_take HE.out (show (mv.map (mvE st ev))[k]? = some (mvE st ev (fr, to_)) by simp [hp]))
      clear hp
      cases h1 : patB st ev fr
      · have H1 := Lib.hid h1
        clear h1
        go_wp2_with (first | (go_at_call 42; ((with_reducible refine (pat_val H1.out HST.out _ _ _ _ _).mono ?_); rintro e w' ⟨rfl, rfl⟩)))
        go_ret
        exact ⟨ret_int (HE1.out k (fr, to_) 7 HE.out HP.out (by unfold mvE; rw [if_pos H1.out]) (by decide)).symm, bthen HBW.out (by go_grown) HBW.out.size⟩
      cases h2 : dayB to_
      · have H1 := Lib.hid h1
        have H2 := Lib.hid h2
        clear h1 h2
        go_wp2_with (first | (go_at_call 42; ((with_reducible refine (pat_val H1.out HST.out _ _ _ _ _).mono ?_); rintro e w' ⟨rfl, rfl⟩)) | (go_at_call 41; refine (day_val H2.out _).mono ?_; rintro e w' ⟨rfl, rfl⟩))
        go_ret
        exact ⟨ret_int (HE1.out k (fr, to_) 1 HE.out HP.out (by unfold mvE; rw [if_neg (by rw [H1.out]; decide), if_pos H2.out]) (by decide)).symm, bthen HBW.out (by go_grown) HBW.out.size⟩
      cases h3 : patB st ev to_
      · have H1 := Lib.hid h1
        have H2 := Lib.hid h2
        have H3 := Lib.hid h3
        clear h1 h2 h3
        go_wp2_with (first | (go_at_call 42; ((with_reducible refine (pat_val H1.out HST.out _ _ _ _ _).mono ?_); rintro e w' ⟨rfl, rfl⟩)) | (go_at_call 41; refine (day_val H2.out _).mono ?_; rintro e w' ⟨rfl, rfl⟩) | (go_at_call 42; ((with_reducible refine (pat_val H3.out HST.out _ _ _ _ _).mono ?_); rintro e w' ⟨rfl, rfl⟩)))
        go_roundw
        case rel => exact ⟨k + 1, by omega, by go_num, by rw [HX1.out]; unfold mvE; rw [if_neg (by rw [H1.out]; decide), if_neg (by rw [H2.out]; decide), if_neg (by rw [H3.out]; decide)], bthen HB.out (by go_grown) HB.out.size⟩
        case measure => simp [intOf]; omega
      · have H1 := Lib.hid h1
        have H2 := Lib.hid h2
        have H3 := Lib.hid h3
        clear h1 h2 h3
        go_wp2_with (first | (go_at_call 42; ((with_reducible refine (pat_val H1.out HST.out _ _ _ _ _).mono ?_); rintro e w' ⟨rfl, rfl⟩)) | (go_at_call 41; refine (day_val H2.out _).mono ?_; rintro e w' ⟨rfl, rfl⟩) | (go_at_call 42; ((with_reducible refine (pat_val H3.out HST.out _ _ _ _ _).mono ?_); rintro e w' ⟨rfl, rfl⟩)))
        go_ret
        exact ⟨ret_int (HE1.out k (fr, to_) 12 HE.out HP.out (by unfold mvE; rw [if_neg (by rw [H1.out]; decide), if_neg (by rw [H2.out]; decide), if_pos H3.out]) (by decide)).symm, bthen HBW.out (by go_grown) HBW.out.size⟩
    · have e : k = n := by omega
      subst e
      have hE0 : firstE (mv.map (mvE st ev)) = 0 := by
        have := HE.out
        rwa [List.take_of_length_le (by rw [List.length_map, HL.out]; exact Nat.le_refl _)] at this
      have HE0 := Lib.hid (HE2.out hE0)
      obtain ⟨wo, rfl⟩ : ∃ wo : World, wo = wr := ⟨_, rfl⟩
      have HFT := Lib.hid (FT.made wo mv)
      clear hE0
      have hz0 : w0.heap.size ≤ wo.heap.size := HB.out.size
      clear q0 q1 q2
      go_wp2
      go_loopw [63] (fun i wx => ∃ j : Nat, j ≤ k ∧ i = .int .i64 (j : Nat) ∧ ((mv.map (·.1)).take j).Nodup ∧ ((mv.map (·.2)).take j).Nodup ∧ FT wx wo.heap.size j mv ∧ Below w0.heap.size w0 wx) (fun i _ => k - (intOf i).toNat)
      case atStart => exact ⟨0, Nat.zero_le _, rfl, List.nodup_nil, List.nodup_nil, HFT.out, bthen HB.out (by go_grown) hz0⟩
      case round =>
        obtain ⟨j, hj, rfl, hnd1, hnd2, hft, hbel⟩ := hrel
        have N1 := Lib.hid hnd1
        have N2 := Lib.hid hnd2
        have FTJ := Lib.hid hft
        have HBL := Lib.hid hbel
        have HBW2 := Lib.hid (bthen HB0.out hbel (by omega))
        clear hnd1 hnd2 hft hbel
        by_cases hlt2 : j < k
        · obtain ⟨p, hp⟩ := at_lt (l := mv) (k := j) (by rw [HL.out]; exact hlt2)
          obtain ⟨fr, to_⟩ := p
          obtain ⟨b, o, rfl, hb, hc⟩ := HM.out.2 (by omega)
          have hcx := (HM.out.cells_ hlt2 hp HBW2.out).2
          have c0 := hcx 0 _ rfl
          rw [Nat.add_zero] at c0
          have c1 := hcx 1 _ rfl
          obtain ⟨ok1, ok2⟩ := HOK.out _ (List.mem_of_getElem? hp)
          have i1 : Hid ((mv.map (·.1))[j]? = some fr) := Lib.hid (by simp [hp])
          have i2 : Hid ((mv.map (·.2))[j]? = some to_) := Lib.hid (by simp [hp])
          have HP := Lib.hid hp
          have hl1 := (FTJ.out.1.alloc (.cells #[.int .i64 fr, .int .i64 to_] 80)).look (i64_wf ok1)
          have hl2 := (FTJ.out.2.alloc (.cells #[.int .i64 fr, .int .i64 to_] 80)).look (i64_wf ok2)
          have W1 := Lib.hid (i64_wf ok1)
          have W2 := Lib.hid (i64_wf ok2)
          clear hcx hc hp ok1 ok2
          by_cases m1 : fr ∈ (mv.map (·.1)).take j
          · rw [memF_in m1] at hl1
            have M1 := Lib.hid m1
            clear m1 hl2
            go_wp2
            go_ret
            exact ⟨ret_int (by rw [HE0.out, if_neg (fun h => nod_not i1.out M1.out h.1)]), bthen HBW2.out (by go_grown) HBW2.out.size⟩
          rw [memF_out m1] at hl1
          have M1 := Lib.hid m1
          clear m1
          by_cases m2 : to_ ∈ (mv.map (·.2)).take j
          · rw [memF_in m2] at hl2
            have M2 := Lib.hid m2
            clear m2
            go_wp2
            go_ret
            exact ⟨ret_int (by rw [HE0.out, if_neg (fun h => nod_not i2.out M2.out h.2)]), bthen HBW2.out (by go_grown) HBW2.out.size⟩
          rw [memF_out m2] at hl2
          have M2 := Lib.hid m2
          clear m2
          obtain ⟨f1, f2⟩ := FTJ.out
          replace f1 := (f1.alloc (.cells #[.int .i64 fr, .int .i64 to_] 80)).drew
          replace f2 := (f2.alloc (.cells #[.int .i64 fr, .int .i64 to_] 80)).drew
          have kx := Blk.new wr 80 #[.int .i64 fr, .int .i64 to_]
          have hx : wo.heap.size + 1 < wr.heap.size := FTJ.out.2.lt
          obtain ⟨wa, ra, ma, ga⟩ := f1.store (by unfold maxLen; omega) W1.out true
          obtain ⟨wb, rb, mb, gb⟩ := (f2.kept ga (by simp)).store (by unfold maxLen; omega) W2.out true
          have hsz : (wr.alloc (.cells #[.int .i64 fr, .int .i64 to_] 80)).drew.heap.size = wr.heap.size + 1 := by simp [World.drew]
          have ta := ga.size
          have B0 : Below w0.heap.size w0 (wr.alloc (.cells #[.int .i64 fr, .int .i64 to_] 80)).drew := (HBL.out.alloc HBL.out.size _).drew
          have BB : Hid (Below w0.heap.size w0 wb) := Lib.hid ((B0.grown ga B0.size (fun i e => by cases e; exact hz0)).grown gb (by omega) (fun i e => by cases e; omega))
          have FB : Hid (FT wb wo.heap.size (j + 1) mv) := Lib.hid (FT.step HP.out ma mb (fun f h => h.kept gb (by simp)) (fun f h => h))
          have SA : Hid (∀ W : World, W.heap[wr.heap.size]? = (wr.alloc (.cells #[.int .i64 fr, .int .i64 to_] 80)).heap[wr.heap.size]? → W.cell? ⟨wr.heap.size, 0, none⟩ = some (.int .i64 fr) ∧ W.cell? ⟨wr.heap.size, 1, none⟩ = some (.int .i64 to_)) := Lib.hid fun W hW => ⟨(Blk.keep kx hW).cell 0, (Blk.keep kx hW).cell 1⟩
          have S0 := Lib.hid (SA.out (wr.alloc (.cells #[.int .i64 fr, .int .i64 to_] 80)).drew rfl)
          have S1 := Lib.hid (SA.out wa (ga.block _ (by omega) (by simp; omega)))
          have S2 := Lib.hid (SA.out wb ((gb.block _ (by omega) (by simp; omega)).trans (ga.block _ (by omega) (by simp; omega))))
          clear f1 f2 kx ma mb ga gb hsz ta B0
          go_wp2_with fail
          go_region_held3 (fun W => W.cell? ⟨wr.heap.size, 0, none⟩ = some (.int .i64 fr) ∧ W.cell? ⟨wr.heap.size, 1, none⟩ = some (.int .i64 to_)) (first | exact S0.out | exact S1.out | exact S2.out) (fail)
          go_wp2
          go_roundw
          case rel => exact ⟨j + 1, by omega, by go_num, nod_step N1.out i1.out M1.out, nod_step N2.out i2.out M2.out, FB.out, BB.out⟩
          case measure => simp [intOf]; omega
        · have e : j = k := by omega
          subst e
          have hn1 : (mv.map (·.1)).Nodup := by
            have := N1.out
            rwa [List.take_of_length_le (by rw [List.length_map, HL.out]; exact Nat.le_refl _)] at this
          have hn2 : (mv.map (·.2)).Nodup := by
            have := N2.out
            rwa [List.take_of_length_le (by rw [List.length_map, HL.out]; exact Nat.le_refl _)] at this
          have HN := Lib.hid (show (mv.map (·.1)).Nodup ∧ (mv.map (·.2)).Nodup from ⟨hn1, hn2⟩)
          clear hn1 hn2
          go_wp2
          go_ret
          exact ⟨ret_int (by rw [HE0.out, if_pos HN.out]), HBW2.out⟩
end Go.Proofs.Ytpeidgfaejnhiaa
