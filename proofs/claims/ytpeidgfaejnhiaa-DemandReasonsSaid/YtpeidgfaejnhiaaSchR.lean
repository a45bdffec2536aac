/- The contract of the reference's Check of a schedule. -/
import Derived.Test.YtpeidgfaejnhiaaSchA
namespace Go.Proofs.Ytpeidgfaejnhiaa
open Go.RowKit Go.Maps

set_option maxRecDepth 100000 in
set_option maxHeartbeats 3200000 in
theorem rsch_any {w : World} (s : Sch) (h : SchIn w s) :
    Calls Try.prog 51 #[.agg s.vs] w fun e w' => e = .returned (.int .i64 (schE s)) ∧ Below w.heap.size w w' := by
  obtain ⟨hm, hn, hok⟩ := h
  have hlen := hm.1
  by_cases hr : schR s
  · have hE : schE s = 1 := if_pos hr
    rw [hE]
    clear hE hm hn hok hlen
    unfold schR at hr
    obtain ⟨con, st, ev, A, n, c, mv⟩ := s
    simp only at hr ⊢
    cases hd : dayB st
    · have HD := Lib.hid hd
      clear hr hd
      go_enter Try.func51, Try.ntmps51
      go_wp2_with (go_at_call 58; refine (rday_val HD.out _).mono ?_; rintro e w' ⟨rfl, rfl⟩)
      all_goals (go_ret; exact ⟨rfl, by go_grown⟩)
    · have HD := Lib.hid hd
      have hr' : con < 0 ∨ 256 ≤ con ∨ ev < 1 ∨ 365 < ev := by
        rcases hr with h | h | h | h | h
        · exact .inl h
        · exact .inr (.inl h)
        · rw [hd] at h; cases h
        · exact .inr (.inr (.inl h))
        · exact .inr (.inr (.inr h))
      clear hr hd
      go_enter Try.func51, Try.ntmps51
      go_wp2_with (go_at_call 58; refine (rday_val HD.out _).mono ?_; rintro e w' ⟨rfl, rfl⟩)
      all_goals first | (exfalso; omega) | (go_ret; exact ⟨rfl, by go_grown⟩)
  have HR := Lib.hid hr
  have HST := Lib.hid (stev_of hr)
  have hday : dayB s.start = true := by
    cases e : dayB s.start
    · exact absurd (.inr (.inr (.inl e))) hr
    · rfl
  have HDAY := Lib.hid hday
  unfold schR at hr
  have r1 : 0 ≤ s.con := by omega
  have r2 : s.con < 256 := by omega
  have r3 : 1 ≤ s.every := by omega
  have r4 : s.every ≤ 365 := by omega
  clear hr hday
  by_cases h32 : 32 < s.n
  · have hE : schE s = 8 := by unfold schE; rw [if_neg HR.out, if_pos (by rw [hlen]; exact h32)]
    rw [hE]
    clear hE hm hn hok hlen HR HST
    obtain ⟨con, st, ev, A, n, c, mv⟩ := s
    simp only at r1 r2 r3 r4 h32 ⊢
    go_enter Try.func51, Try.ntmps51
    go_wp2_with (go_at_call 58; refine (rday_val HDAY.out _).mono ?_; rintro e w' ⟨rfl, rfl⟩)
    all_goals first | (exfalso; omega) | (go_ret; exact ⟨rfl, by go_grown⟩)
  have H32 : Hid (¬ 32 < s.mv.length) := Lib.hid (by rw [hlen]; exact h32)
  have n32 : s.n ≤ 32 := by omega
  have HL := Lib.hid hlen
  have HM := Lib.hid hm
  have HOK := Lib.hid hok
  have K0 : Hid (Blk (w.alloc (.cells s.vs 45)) w.heap.size 45 s.vs) := Lib.hid (Blk.new _ _ _)
  have HE1 : Hid (∀ k p v, firstE ((s.mv.map (mvE s.start s.every)).take k) = 0 → s.mv[k]? = some p → mvE s.start s.every p = v → v ≠ 0 → schE s = v) := Lib.hid fun k p v a b c d => sch_err HR.out H32.out a b c d
  have HE2 : Hid (firstE (s.mv.map (mvE s.start s.every)) = 0 → schE s = if (s.mv.map (·.1)).Nodup ∧ (s.mv.map (·.2)).Nodup then 0 else 6) := Lib.hid fun a => sch_dup HR.out H32.out a
  obtain ⟨E, hEE⟩ : ∃ E, schE s = E := ⟨_, rfl⟩
  rw [hEE] at HE1 HE2 ⊢
  clear hlen hm hn hok h32 HR H32 hEE
  obtain ⟨con, st, ev, A, n, c, mv⟩ := s
  simp only at r1 r2 r3 r4 n32 HDAY HST HL HM HOK HE1 HE2 K0 ⊢
  go_enter Try.func51, Try.ntmps51
  go_wp2_with (go_at_call 58; refine (rday_val HDAY.out _).mono ?_; rintro e w' ⟨rfl, rfl⟩)
  all_goals first | (exfalso; omega) | skip
  obtain ⟨w0, hw0, hb0⟩ : ∃ w0, w.alloc (.cells #[.int .i64 con, .int .i64 st, .int .i64 ev, .slice A n c] 45) = w0 ∧ Below w.heap.size w w0 := ⟨_, rfl, by go_grown⟩
  have hs0 : w0.heap.size = w.heap.size + 1 := by rw [← hw0]; simp
  rw [hw0] at K0 ⊢
  have HB0 := Lib.hid hb0
  clear hw0 hb0
  go_loopw [3] (fun i wr => ∃ k : Nat, k ≤ n ∧ i = .int .i64 (k : Nat) ∧ firstE ((mv.map (mvE st ev)).take k) = 0 ∧ Below w0.heap.size w0 wr) (fun i _ => n - (intOf i).toNat)
  case atStart => exact ⟨0, Nat.zero_le _, rfl, rfl, Below.refl _ _⟩
  case round =>
    obtain ⟨k, hk, rfl, hE, hbel⟩ := hrel
    have HE := Lib.hid hE
    have HB := Lib.hid hbel
    have HBW := Lib.hid (bthen HB0.out hbel (by omega))
    have kr := K0.out.grow hbel
    have q0 := kr.cell 0
    have q1 := kr.cell 1
    have q2 := kr.cell 2
    have q3 := kr.cell 3
    have hzr := kr.lt
    simp at q0 q1 q2 q3
    clear hE hbel kr
    by_cases hlt : k < n
    · obtain ⟨p, hp⟩ := at_lt (l := mv) (k := k) (by rw [HL.out]; exact hlt)
      obtain ⟨fr, to_⟩ := p
      obtain ⟨b, o, rfl, hb, hc⟩ := HM.out.2 (by omega)
      have hbr : b < wr.heap.size := Nat.lt_of_lt_of_le hb HBW.out.size
      have HS : Hid (∀ W, Below w0.heap.size w0 W → (W.cell? ⟨w.heap.size, 0, none⟩ = some (.int .i64 con) ∧ W.cell? ⟨w.heap.size, 1, none⟩ = some (.int .i64 st) ∧ W.cell? ⟨w.heap.size, 2, none⟩ = some (.int .i64 ev) ∧ W.cell? ⟨w.heap.size, 3, none⟩ = some (.slice (some ⟨b, o, none⟩) n c) ∧ W.cell? ⟨b, o + k * 2, none⟩ = some (.int .i64 fr) ∧ W.cell? ⟨b, o + k * 2 + 1, none⟩ = some (.int .i64 to_))) := Lib.hid (fun W hW => by
        have kq := K0.out.grow hW
        have hcx := (HM.out.cells_ hlt hp (bthen HB0.out hW (by omega))).2
        exact ⟨kq.cell 0, kq.cell 1, kq.cell 2, kq.cell 3, hcx 0 _ rfl, hcx 1 _ rfl⟩)
      have hcx := (HM.out.cells_ hlt hp HBW.out).2
      have c0 := hcx 0 _ rfl
      rw [Nat.add_zero] at c0
      have c1 := hcx 1 _ rfl
      clear hcx hc
      have HP := Lib.hid hp
      have HX1 := Lib.hid (firstE_take HE.out (show (mv.map (mvE st ev))[k]? = some (mvE st ev (fr, to_)) by simp [hp]))
      clear hp
      have i1 : (0 : Int) ≤ (k : Int) := by omega
      have i2 : (k : Int) < (n : Int) := by omega
      have BA := Lib.hid HB.out.drew
      have BB := Lib.hid (BA.out.alloc BA.out.size (.cells #[.int .i64 con, .int .i64 st, .int .i64 ev, .slice (some ⟨b, o, none⟩) n c] 45))
      have BC := Lib.hid BB.out.drew
      have BD := Lib.hid (BC.out.alloc BC.out.size (.cells #[.int .i64 con, .int .i64 st, .int .i64 ev, .slice (some ⟨b, o, none⟩) n c] 45))
      cases h1 : patB st ev fr
      · have H1 := Lib.hid h1
        clear h1
        go_wp2_with fail
        go_region_held3 (fun W => W.cell? ⟨w.heap.size, 0, none⟩ = some (.int .i64 con) ∧ W.cell? ⟨w.heap.size, 1, none⟩ = some (.int .i64 st) ∧ W.cell? ⟨w.heap.size, 2, none⟩ = some (.int .i64 ev) ∧ W.cell? ⟨w.heap.size, 3, none⟩ = some (.slice (some ⟨b, o, none⟩) n c) ∧ W.cell? ⟨b, o + k * 2, none⟩ = some (.int .i64 fr) ∧ W.cell? ⟨b, o + k * 2 + 1, none⟩ = some (.int .i64 to_))
          (first | exact HS.out _ HB.out | exact HS.out _ BA.out | exact HS.out _ BB.out)
          (first | (go_at_call 59; ((with_reducible refine (rpat_val H1.out HST.out _ _ _ _ _).mono ?_); rintro e w' ⟨rfl, rfl⟩)))
        go_wp2
        go_ret
        exact ⟨ret_int (HE1.out k (fr, to_) 7 HE.out HP.out (by unfold mvE; rw [if_pos H1.out]) (by decide)).symm, bthen HB0.out BB.out (by omega)⟩
      cases h2 : dayB to_
      · have H1 := Lib.hid h1
        have H2 := Lib.hid h2
        clear h1 h2
        go_wp2_with fail
        go_region_held3 (fun W => W.cell? ⟨w.heap.size, 0, none⟩ = some (.int .i64 con) ∧ W.cell? ⟨w.heap.size, 1, none⟩ = some (.int .i64 st) ∧ W.cell? ⟨w.heap.size, 2, none⟩ = some (.int .i64 ev) ∧ W.cell? ⟨w.heap.size, 3, none⟩ = some (.slice (some ⟨b, o, none⟩) n c) ∧ W.cell? ⟨b, o + k * 2, none⟩ = some (.int .i64 fr) ∧ W.cell? ⟨b, o + k * 2 + 1, none⟩ = some (.int .i64 to_))
          (first | exact HS.out _ HB.out | exact HS.out _ BA.out | exact HS.out _ BB.out)
          (first | (go_at_call 59; ((with_reducible refine (rpat_val H1.out HST.out _ _ _ _ _).mono ?_); rintro e w' ⟨rfl, rfl⟩)))
        go_wp2_with (first | (go_at_call 58; refine (rday_val H2.out _).mono ?_; rintro e w' ⟨rfl, rfl⟩))
        go_ret
        exact ⟨ret_int (HE1.out k (fr, to_) 1 HE.out HP.out (by unfold mvE; rw [if_neg (by rw [H1.out]; decide), if_pos H2.out]) (by decide)).symm, bthen HB0.out BB.out (by omega)⟩
      cases h3 : patB st ev to_
      · have H1 := Lib.hid h1
        have H2 := Lib.hid h2
        have H3 := Lib.hid h3
        clear h1 h2 h3
        go_wp2_with fail
        go_region_held3 (fun W => W.cell? ⟨w.heap.size, 0, none⟩ = some (.int .i64 con) ∧ W.cell? ⟨w.heap.size, 1, none⟩ = some (.int .i64 st) ∧ W.cell? ⟨w.heap.size, 2, none⟩ = some (.int .i64 ev) ∧ W.cell? ⟨w.heap.size, 3, none⟩ = some (.slice (some ⟨b, o, none⟩) n c) ∧ W.cell? ⟨b, o + k * 2, none⟩ = some (.int .i64 fr) ∧ W.cell? ⟨b, o + k * 2 + 1, none⟩ = some (.int .i64 to_))
          (first | exact HS.out _ HB.out | exact HS.out _ BA.out | exact HS.out _ BB.out)
          (first | (go_at_call 59; ((with_reducible refine (rpat_val H1.out HST.out _ _ _ _ _).mono ?_); rintro e w' ⟨rfl, rfl⟩)))
        go_wp2_with (first | (go_at_call 58; refine (rday_val H2.out _).mono ?_; rintro e w' ⟨rfl, rfl⟩))
        go_region_held3 (fun W => W.cell? ⟨w.heap.size, 0, none⟩ = some (.int .i64 con) ∧ W.cell? ⟨w.heap.size, 1, none⟩ = some (.int .i64 st) ∧ W.cell? ⟨w.heap.size, 2, none⟩ = some (.int .i64 ev) ∧ W.cell? ⟨w.heap.size, 3, none⟩ = some (.slice (some ⟨b, o, none⟩) n c) ∧ W.cell? ⟨b, o + k * 2, none⟩ = some (.int .i64 fr) ∧ W.cell? ⟨b, o + k * 2 + 1, none⟩ = some (.int .i64 to_))
          (first | exact HS.out _ BB.out | exact HS.out _ BC.out | exact HS.out _ BD.out)
          (first | (go_at_call 59; ((with_reducible refine (rpat_val H3.out HST.out _ _ _ _ _).mono ?_); rintro e w' ⟨rfl, rfl⟩)))
        go_wp2
        go_roundw
        case rel => exact ⟨k + 1, by omega, by go_num, by rw [HX1.out]; unfold mvE; rw [if_neg (by rw [H1.out]; decide), if_neg (by rw [H2.out]; decide), if_neg (by rw [H3.out]; decide)], BD.out⟩
        case measure => simp [intOf]; omega
      · have H1 := Lib.hid h1
        have H2 := Lib.hid h2
        have H3 := Lib.hid h3
        clear h1 h2 h3
        go_wp2_with fail
        go_region_held3 (fun W => W.cell? ⟨w.heap.size, 0, none⟩ = some (.int .i64 con) ∧ W.cell? ⟨w.heap.size, 1, none⟩ = some (.int .i64 st) ∧ W.cell? ⟨w.heap.size, 2, none⟩ = some (.int .i64 ev) ∧ W.cell? ⟨w.heap.size, 3, none⟩ = some (.slice (some ⟨b, o, none⟩) n c) ∧ W.cell? ⟨b, o + k * 2, none⟩ = some (.int .i64 fr) ∧ W.cell? ⟨b, o + k * 2 + 1, none⟩ = some (.int .i64 to_))
          (first | exact HS.out _ HB.out | exact HS.out _ BA.out | exact HS.out _ BB.out)
          (first | (go_at_call 59; ((with_reducible refine (rpat_val H1.out HST.out _ _ _ _ _).mono ?_); rintro e w' ⟨rfl, rfl⟩)))
        go_wp2_with (first | (go_at_call 58; refine (rday_val H2.out _).mono ?_; rintro e w' ⟨rfl, rfl⟩))
        go_region_held3 (fun W => W.cell? ⟨w.heap.size, 0, none⟩ = some (.int .i64 con) ∧ W.cell? ⟨w.heap.size, 1, none⟩ = some (.int .i64 st) ∧ W.cell? ⟨w.heap.size, 2, none⟩ = some (.int .i64 ev) ∧ W.cell? ⟨w.heap.size, 3, none⟩ = some (.slice (some ⟨b, o, none⟩) n c) ∧ W.cell? ⟨b, o + k * 2, none⟩ = some (.int .i64 fr) ∧ W.cell? ⟨b, o + k * 2 + 1, none⟩ = some (.int .i64 to_))
          (first | exact HS.out _ BB.out | exact HS.out _ BC.out | exact HS.out _ BD.out)
          (first | (go_at_call 59; ((with_reducible refine (rpat_val H3.out HST.out _ _ _ _ _).mono ?_); rintro e w' ⟨rfl, rfl⟩)))
        go_wp2
        go_ret
        exact ⟨ret_int (HE1.out k (fr, to_) 12 HE.out HP.out (by unfold mvE; rw [if_neg (by rw [H1.out]; decide), if_neg (by rw [H2.out]; decide), if_pos H3.out]) (by decide)).symm, bthen HB0.out BD.out (by omega)⟩
    · have e : k = n := by omega
      subst e
      have hE0 : firstE (mv.map (mvE st ev)) = 0 := by
        have := HE.out
        rwa [List.take_of_length_le (by rw [List.length_map, HL.out]; exact Nat.le_refl _)] at this
      have HE0 := Lib.hid (HE2.out hE0)
      obtain ⟨wo, rfl⟩ : ∃ wo : World, wo = wr := ⟨_, rfl⟩
      clear hE0 q0 q1 q2
      go_wp2
      go_loopw [4] (fun i wx => ∃ j : Nat, j ≤ k ∧ i = .int .i64 (j : Nat) ∧ ((mv.map (·.1)).take j).Nodup ∧ ((mv.map (·.2)).take j).Nodup ∧ Below w0.heap.size w0 wx) (fun i _ => k - (intOf i).toNat)
      case atStart => exact ⟨0, Nat.zero_le _, rfl, List.nodup_nil, List.nodup_nil, HB.out⟩
      case round =>
        obtain ⟨j, hj, rfl, hnd1, hnd2, hbel⟩ := hrel
        have N1 := Lib.hid hnd1
        have N2 := Lib.hid hnd2
        have HBL := Lib.hid hbel
        have HBW2 := Lib.hid (bthen HB0.out hbel (by omega))
        have kr := K0.out.grow hbel
        have p3 := kr.cell 3
        have hzx := kr.lt
        simp at p3
        clear hnd1 hnd2 hbel kr q3
        by_cases hlt2 : j < k
        · obtain ⟨p, hp⟩ := at_lt (l := mv) (k := j) (by rw [HL.out]; exact hlt2)
          obtain ⟨fr, to_⟩ := p
          obtain ⟨b, o, rfl, hb, hc⟩ := HM.out.2 (by omega)
          have i1 : Hid ((mv.map (·.1))[j]? = some fr) := Lib.hid (by simp [hp])
          have i2 : Hid ((mv.map (·.2))[j]? = some to_) := Lib.hid (by simp [hp])
          have HP := Lib.hid hp
          clear hc hp
          obtain ⟨w2, rfl⟩ : ∃ w2 : World, w2 = wr := ⟨_, rfl⟩
          go_wp2
          go_loopw [5] (fun i wy => ∃ t : Nat, t ≤ j ∧ i = .int .i64 (t : Nat) ∧ fr ∉ (mv.map (·.1)).take t ∧ to_ ∉ (mv.map (·.2)).take t ∧ Below w0.heap.size w0 wy) (fun i _ => j - (intOf i).toNat)
          case atStart => exact ⟨0, Nat.zero_le _, rfl, by simp, by simp, HBL.out⟩
          case round =>
            obtain ⟨t, ht, rfl, hn1, hn2, hby⟩ := hrel
            have M1 := Lib.hid hn1
            have M2 := Lib.hid hn2
            have HBY := Lib.hid hby
            have HBYW := Lib.hid (bthen HB0.out hby (by omega))
            have ky := K0.out.grow hby
            have y3 := ky.cell 3
            have hzy := ky.lt
            simp at y3
            clear hn1 hn2 hby ky p3
            by_cases hlt3 : t < j
            · obtain ⟨q, hq⟩ := at_lt (l := mv) (k := t) (by rw [HL.out]; omega)
              obtain ⟨fr2, to2⟩ := q
              have hc1 := (HM.out.cells_ hlt2 HP.out HBYW.out).2
              have hc2 := (HM.out.cells_ (by omega) hq HBYW.out).2
              have c0 := hc1 0 _ rfl
              have c1 := hc1 1 _ rfl
              have d0 := hc2 0 _ rfl
              have d1 := hc2 1 _ rfl
              rw [Nat.add_zero] at c0 d0
              have T1 : Hid ((mv.map (·.1)).take (t + 1) = (mv.map (·.1)).take t ++ [fr2]) := Lib.hid (by rw [List.take_add_one, List.getElem?_map, hq]; rfl)
              have T2 : Hid ((mv.map (·.2)).take (t + 1) = (mv.map (·.2)).take t ++ [to2]) := Lib.hid (by rw [List.take_add_one, List.getElem?_map, hq]; rfl)
              have X1 : Hid ((mv.map (·.1))[t]? = some fr2) := Lib.hid (by simp [hq])
              have X2 : Hid ((mv.map (·.2))[t]? = some to2) := Lib.hid (by simp [hq])
              clear hc1 hc2 hq
              have x1 : (0 : Int) ≤ (j : Int) := by omega
              have x2 : (j : Int) < (k : Int) := by omega
              have x3 : (0 : Int) ≤ (t : Int) := by omega
              have x4 : (t : Int) < (k : Int) := by omega
              by_cases e1 : fr = fr2
              · subst e1
                go_wp2_with fail
                go_quiet (fail)
                go_wp2
                go_ret
                exact ⟨ret_int (by rw [HE0.out, if_neg (fun h => nod_not i1.out (List.mem_of_getElem? (i := t) (by rw [List.getElem?_take_of_lt hlt3]; exact X1.out)) h.1)]), belowN HBYW.out _⟩
              have f1 : (fr == fr2) = false := by simpa using e1
              have E1 := Lib.hid e1
              clear e1
              by_cases e2 : to_ = to2
              · subst e2
                go_wp2_with fail
                go_quiet (fail)
                go_wp2
                go_ret
                exact ⟨ret_int (by rw [HE0.out, if_neg (fun h => nod_not i2.out (List.mem_of_getElem? (i := t) (by rw [List.getElem?_take_of_lt hlt3]; exact X2.out)) h.2)]), belowN HBYW.out _⟩
              have f2 : (to_ == to2) = false := by simpa using e2
              have E2 := Lib.hid e2
              clear e2
              go_wp2_with fail
              go_quiet (fail)
              go_wp2
              go_roundw
              case rel => exact ⟨t + 1, by omega, by go_num, by rw [T1.out]; simp; exact ⟨by simpa using M1.out, E1.out⟩, by rw [T2.out]; simp; exact ⟨by simpa using M2.out, E2.out⟩, belowN HBY.out _⟩
              case measure => simp [intOf]; omega
            · have e : t = j := by omega
              subst e
              clear y3
              go_wp2
              go_roundw
              case rel => exact ⟨t + 1, by omega, by go_num, nod_step N1.out i1.out M1.out, nod_step N2.out i2.out M2.out, HBY.out⟩
              case measure => simp [intOf]; omega
        · have e : j = k := by omega
          subst e
          have hn1 : (mv.map (·.1)).Nodup := by
            have := N1.out
            rwa [List.take_of_length_le (by rw [List.length_map, HL.out]; exact Nat.le_refl _)] at this
          have hn2 : (mv.map (·.2)).Nodup := by
            have := N2.out
            rwa [List.take_of_length_le (by rw [List.length_map, HL.out]; exact Nat.le_refl _)] at this
          have HN := Lib.hid (show (mv.map (·.1)).Nodup ∧ (mv.map (·.2)).Nodup from ⟨hn1, hn2⟩)
          clear hn1 hn2
          go_wp2
          go_ret
          exact ⟨ret_int (by rw [HE0.out, if_pos HN.out]), HBW2.out⟩
end Go.Proofs.Ytpeidgfaejnhiaa
