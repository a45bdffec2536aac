/- Tours: serve at a demand. -/
import Derived.Test.YtmoakdplhfgipaaTouE
import Derived.Lib.QuietBelow
import Derived.BigQuiet
namespace Go.Proofs.Ytmoakdplhfgipaa
set_option maxRecDepth 20000
open Go.RowKit Go.Maps

theorem carries_q {b : Bool} {v : Veh} {k : Int} {w : World} (hb : carB v.kinds k = b) (d : Nat) (os : Array Obj) : Calls Try.prog 50 #[.agg v.vs, .int .i64 k] (Go.Sort.grow (redrawn w d) os) fun e w'' => e = .returned (.bool b) ∧ ∃ p : Regrown, w'' = Go.Sort.grow (redrawn w p.d) p.os := by
  rw [← hb]; exact Calls.regrown_of (carries_any _ _ _)
theorem RdS.takeJ {w : World} {S : Nat → Prop} {A : Option Addr} {n j : Nat} {L : List Int} (h : RdS w S A n (zs L)) (hj : j ≤ n) : RdS w S A j (zs (L.take j)) := by
  refine ⟨?_, fun h0 => ?_⟩
  · have := h.1
    rw [zs_len] at this
    rw [zs_len, List.length_take]
    omega
  · obtain ⟨b, o, e, hb, hc⟩ := h.2 (by omega)
    refine ⟨b, o, e, hb, fun i u hu => hc i u ?_⟩
    unfold zs at hu ⊢
    rw [List.map_take] at hu
    have hi : i < j := by
      have := (List.getElem?_eq_some_iff.1 hu).1
      rw [List.length_take] at this
      omega
    rwa [List.getElem?_take_of_lt hi] at hu
set_option maxRecDepth 100000 in
set_option maxHeartbeats 12800000 in
theorem serve_dm {w0 w : World} {X : WPar} {wb nm i : Nat} {p : Plc} {vs : List Vis} {vi : Int} {A : Option Addr} {n c k : Nat} {S : List Int} {s : Int} (h : TSx w0 w X wb p vs nm) (hX : WOk X) (hp : PlB X i p) (hi : i ≤ 100) (hnm : nm ≤ 1000) (hvs : vs.length ≤ 1000) (hS : RdS w0 (· < w0.heap.size) A n (zs S)) (hn : n ≤ 40) (hc : n ≤ c) (hk : k < n) (hs : S[k]? = some s) (hs1 : s ≠ -1) :
    Calls Try.prog 30 #[.pointer (some ⟨wb, 0, none⟩), .agg #[.int .i64 vi, .slice A n c], .int .i64 (k : Int)] w fun e w' => StepQ w0 X wb nm vs (stepP X p (S.take k) s) e w' := by
  have HSP : Hid (stepP X p (S.take k) s = if s < 0 then none else match X.D[s.toNat]? with
    | none => none
    | some d => stepD X p (S.take k) s d) := Lib.hid (by unfold stepP; rw [if_neg hs1]; rfl)
  obtain ⟨b, o, rfl, hb, hcc⟩ := hS.2 (by omega)
  have hb1 : Below w.heap.size w (w.alloc (.cells #[.int .i64 vi, .slice (some ⟨b, o, none⟩) n c] 34)) := by go_grown
  have h1 := h.up hb1
  have kt := Blk.new w 34 #[.int .i64 vi, .slice (some ⟨b, o, none⟩) n c]
  obtain ⟨w1, hw1⟩ : ∃ w1, w.alloc (.cells #[.int .i64 vi, .slice (some ⟨b, o, none⟩) n c] 34) = w1 := ⟨_, rfl⟩
  rw [hw1] at h1 kt
  have c0 : w1.cell? ⟨b, o + k, none⟩ = some (.int .i64 s) := (World.cell?_of_block (a := ⟨b, o + k, none⟩) (h1.bel.block b hb)).trans (hcc k _ (zs_at hs))
  have t0 := kt.cell 0
  have t1 := kt.cell 1
  simp at t0 t1
  have H1 := Lib.hid h1
  have KT := Lib.hid kt
  obtain ⟨a7, a8, _, a10, a11, a12, a13, a14, a15⟩ := h1.par
  have HX := Lib.hid hX
  have HP := Lib.hid hp
  have HRS : Hid (RdS w1 (· < w1.heap.size) (some ⟨b, o, none⟩) n (zs S)) := Lib.hid ((hS.below h1.bel).mono (fun b hb => Nat.lt_of_lt_of_le hb h1.bel.size))
  have hdl := h1.prb.d.1
  have e1 : (s == -1) = false := by simpa using hs1
  have htw := h.lt
  clear h kt h1 hcc hX hp hS hs hb1
  go_enter Try.func30, Try.ntmps30
  by_cases g0 : s < 0
  · rw [if_pos g0] at HSP
    go_wp2_with fail
    go_ret
    rw [HSP.out]
    exact ⟨⟨7, rfl, by decide⟩, H1.out.bel⟩
  · rw [if_neg g0] at HSP
    have g0d : decide (s < 0) = false := by simpa using g0
    by_cases g1 : (X.nD : Int) ≤ s
    · have hnone : X.D[s.toNat]? = none := List.getElem?_eq_none (by omega)
      rw [hnone] at HSP
      simp only at HSP
      clear hnone
      go_wp2_with fail
      go_ret
      rw [HSP.out]
      exact ⟨⟨7, rfl, by decide⟩, H1.out.bel⟩
    · have g1d : decide (s ≥ (X.nD : Int)) = false := by simp; omega
      obtain ⟨d, hd⟩ := at_lt (l := X.D) (k := s.toNat) (by omega)
      rw [hd] at HSP
      simp only at HSP
      have HD := Lib.hid hd
      clear hd
      go_wp2_with fail
      refine (contains_int (HRS.out.takeJ (j := k) (by omega)) (by omega) s).mono ?_
      rintro e w2 ⟨rfl, hb2⟩
      have H2 := Lib.hid (H1.out.up hb2)
      have KT2 := Lib.hid (KT.out.grow hb2)
      clear hb2 hw1 c0 t0 t1 a7 a8 a10 a11 a12 a13 a14 a15
      by_cases g2 : s ∈ S.take k
      · rw [decide_eq_true g2]
        have HST : Hid (stepD X p (S.take k) s d = none) := Lib.hid (by unfold stepD; rw [if_neg (fun h => h.1 g2)])
        go_wp2_with fail
        go_ret
        rw [HSP.out, HST.out]
        exact ⟨⟨6, rfl, by decide⟩, H2.out.bel⟩
      · rw [decide_eq_false g2]
        obtain ⟨bD, oD, eD, hbD, _⟩ := H2.out.prb.d.2 (by omega)
        obtain ⟨a7, _, _, a10, a11, a12, a13, a14, a15⟩ := H2.out.par
        have hrd := H2.out.prb.d
        rw [eD] at a7 hrd
        have hdc := (hrd.cells_ (k := s.toNat) (by omega) HD.out H2.out.bel).2
        obtain ⟨sn, hsn⟩ : ∃ sn : Nat, s = (sn : Int) := ⟨s.toNat, by omega⟩
        subst hsn
        simp only [Int.toNat_natCast] at hdc HD
        obtain ⟨dc, dn, dk, dg, df, dt, dv⟩ := d
        have r0 := cell_regrown a7
        have r1 := cell_regrown a10
        have r2 := cell_regrown a11
        have r3 := cell_regrown a12
        have r4 := cell_regrown a13
        have r5 := cell_regrown a14
        have r6 := cell_regrown a15
        have r7 := cell_regrown (hdc 2 _ rfl)
        obtain ⟨bb, hbb⟩ : ∃ bb, carB X.v.kinds dk = bb := ⟨_, rfl⟩
        have HBB := Lib.hid hbb
        have HAD := Lib.hid eD
        have hsD : sn < X.nD := by omega
        clear hbb hdc hrd eD hbD a7 a10 a11 a12 a13 a14 a15
        go_wp2_with fail
        refine wp_region_quiet_below (by kernel_rfl) (by kernel_rfl) ?_
        repeat (go_big_quiet_step (exact carries_q (v := X.v) HBB.out _ _))
        refine wpQuiet_nil ?_
        intro _ hw'
        obtain ⟨⟨dq, osq⟩, hw''⟩ := hw'
        subst hw''
        obtain ⟨w3, hw3⟩ : ∃ w3, Go.Sort.grow (redrawn w2 dq) osq = w3 := ⟨_, rfl⟩
        have hb3 : Below w2.heap.size w2 w3 := by rw [← hw3]; exact below_regrown _ dq osq
        rw [hw3]
        have H3 := Lib.hid (H2.out.up hb3)
        have KT3 := Lib.hid (KT2.out.grow hb3)
        clear hw3 hb3 r0 r1 r2 r3 r4 r5 r6 r7
        cases bb with
        | false =>
          have HST : Hid (stepD X p (S.take k) (sn : Int) ⟨dc, dn, dk, dg, df, dt, dv⟩ = none) := Lib.hid (by unfold stepD; rw [if_neg (fun h => by have := h.2.1; rw [HBB.out] at this; cases this)])
          go_wp2_with fail
          go_ret
          rw [HSP.out, HST.out]
          exact ⟨⟨21, rfl, by decide⟩, H3.out.bel⟩
        | true =>
          obtain ⟨a7, _, _, _, _, _, _, a14, _⟩ := H3.out.par
          have hrd := H3.out.prb.d
          rw [HAD.out] at a7 hrd
          have hdc := (hrd.cells_ (k := sn) (by omega) HD.out H3.out.bel).2
          have e0 := hdc 1 _ rfl
          obtain ⟨q0, q1, q2, q3, q4, q5, q6, q7⟩ := HX.out.dm _ (List.mem_of_getElem? HD.out)
          simp only at q0 q1 q2 q3 q4 q5 q6 q7
          clear hdc hrd
          go_wp2_with fail
          refine (leg_any H3.out HX.out.net hnm HP.out.n0 HP.out.n1 q0 q1).mono ?_
          rintro e w4 ⟨rfl, hl4, h4⟩
          obtain ⟨hw1', hw2', hw3'⟩ := way_bnd hl4 q0 q1
          have HSD : Hid (stepD X p (S.take k) (sn : Int) ⟨dc, dn, dk, dg, df, dt, dv⟩ = if 0 ≤ (wayOf X p.n dn).s ∧ max (p.t + (wayOf X p.n dn).s) df < dt ∧ p.l + dg ≤ X.v.gr then some (⟨dn, max (p.t + (wayOf X p.n dn).s) df + dv, p.l + dg, p.m + (wayOf X p.n dn).m⟩, ⟨(sn : Int), dn, p.t + (wayOf X p.n dn).s, max (p.t + (wayOf X p.n dn).s) df, max (p.t + (wayOf X p.n dn).s) df + dv, p.l + dg⟩) else none) := Lib.hid (by
            unfold stepD
            by_cases hcc : 0 ≤ (wayOf X p.n dn).s ∧ max (p.t + (wayOf X p.n dn).s) df < dt ∧ p.l + dg ≤ X.v.gr
            · rw [if_pos hcc, if_pos ⟨g2, HBB.out, ⟨hl4, hcc.1⟩, hcc.2.1, hcc.2.2⟩]; rfl
            · rw [if_neg hcc, if_neg (fun h => hcc ⟨h.2.2.1.2, h.2.2.2.1, h.2.2.2.2⟩)])
          obtain ⟨⟨ls, lm⟩, hl⟩ : ∃ l, wayOf X p.n dn = l := ⟨_, rfl⟩
          rw [hl] at HSD hw1' hw2' hw3' ⊢
          simp only at HSD hw1' hw2' hw3' ⊢
          have H4 := Lib.hid h4
          clear hl hl4 h4 a7 a14 e0
          by_cases hcl : 0 ≤ ls
          · rw [decide_eq_true hcl]
            have hb5 : Below w4.heap.size w4 (w4.alloc (.cells #[.int .i64 ls, .int .i64 lm] 50)) := by go_grown
            have h5 := H4.out.up hb5
            have kl := Blk.new w4 50 #[.int .i64 ls, .int .i64 lm]
            have hlt := H4.out.lt
            obtain ⟨w5, hw5⟩ : ∃ w5, w4.alloc (.cells #[.int .i64 ls, .int .i64 lm] 50) = w5 := ⟨_, rfl⟩
            obtain ⟨lb, hlb⟩ : ∃ lb, w4.heap.size = lb := ⟨_, rfl⟩
            rw [hw5] at h5 kl
            rw [hlb] at kl hlt
            have H5 := Lib.hid h5
            have KL := Lib.hid kl
            clear h5 kl hb5
            go_wp2_with fail
            clear hw5 hlb
            have HLS : Hid (∀ W, Kp (fun b => b = wb) w5 W → W.cell? ⟨lb, 0, none⟩ = some (.int .i64 ls) ∧ W.cell? ⟨lb, 1, none⟩ = some (.int .i64 lm)) := Lib.hid (fun W hW => by
              have k := hW.blk KL.out (by omega)
              exact ⟨k.cell 0, k.cell 1⟩)
            have HKD : Hid (Kp (fun b => b = wb) w5 w5.drew) := Lib.hid (Kp.of ((Below.refl _ _).drew))
            have HD5 : Hid (TSx w0 w5.drew X wb p vs (nm + 1)) := Lib.hid (H5.out.up ((Below.refl _ _).drew))
            have pt0 := HP.out.t0
            have pt1 := HP.out.t1
            have pm0 := HP.out.m0
            have pm1 := HP.out.m1
            go_region_held3 (fun W => W.cell? ⟨lb, 0, none⟩ = some (.int .i64 ls) ∧ W.cell? ⟨lb, 1, none⟩ = some (.int .i64 lm))
              (first | exact HLS.out _ HKD.out | exact HLS.out _ HK6.out)
              (first
                | (go_at_call 52; refine (trav_x HD5.out dn ls lm pt0 (by omega) pm0 (by omega) hcl (by omega) (by omega) (by omega)).mono ?_; rintro e w6 ⟨rfl, h6, hk6⟩; have H6 := Lib.hid h6; have HK6 := Lib.hid (HKD.out.trans hk6); clear h6 hk6))
            obtain ⟨⟨_, a1, _, _⟩, _⟩ := H6.out.cells
            obtain ⟨a7, _, _, _, _, _, _, a14, _⟩ := H6.out.par
            have hrd := H6.out.prb.d
            rw [HAD.out] at a7 hrd
            have hdc := (hrd.cells_ (k := sn) (by omega) HD.out H6.out.bel).2
            have e0 := hdc 0 _ rfl
            rw [Nat.add_zero] at e0
            have e1' := hdc 1 _ rfl
            have e2 := hdc 2 _ rfl
            have e3 := hdc 3 _ rfl
            have e4 := hdc 4 _ rfl
            have e5 := hdc 5 _ rfl
            have e6 := hdc 6 _ rfl
            simp only at a1
            clear hdc hrd
            have hb7 : Below w6.heap.size w6 (w6.alloc (.cells #[.int .i64 dc, .int .i64 dn, .int .i64 dk, .int .i64 dg, .int .i64 df, .int .i64 dt, .int .i64 dv] 72)) := by go_grown
            have h7 := H6.out.up hb7
            have kd := Blk.new w6 72 #[.int .i64 dc, .int .i64 dn, .int .i64 dk, .int .i64 dg, .int .i64 df, .int .i64 dt, .int .i64 dv]
            obtain ⟨w7, hw7⟩ : ∃ w7, w6.alloc (.cells #[.int .i64 dc, .int .i64 dn, .int .i64 dk, .int .i64 dg, .int .i64 df, .int .i64 dt, .int .i64 dv] 72) = w7 := ⟨_, rfl⟩
            have hlt6 := H6.out.lt
            obtain ⟨db, hdb⟩ : ∃ db, w6.heap.size = db := ⟨_, rfl⟩
            rw [hw7] at h7 kd
            rw [hdb] at kd hlt6
            have H7 := Lib.hid h7
            have KD := Lib.hid kd
            have d3 := kd.cell 3
            have d4 := kd.cell 4
            have d5 := kd.cell 5
            have d6 := kd.cell 6
            simp at d3 d4 d5 d6
            obtain ⟨⟨_, x1, x2, _⟩, hfz⟩ := H7.out.cells
            have f1 := hfz 1
            have f2 := hfz 2
            obtain ⟨_, _, _, _, _, _, _, x14, _⟩ := H7.out.par
            simp only at x1 x2
            obtain ⟨st, hst⟩ : ∃ st, max (p.t + ls) df = st := ⟨_, rfl⟩
            rw [hst] at HSD
            have HMX := Lib.hid hst
            have l0 := HP.out.l0
            have l1 := HP.out.l1
            have hst0 : 0 ≤ st := by omega
            clear h7 kd hb7 hfz hst
            go_upto_region 22 with fail
            go_cut [13] (fun s13 W => s13 = .int .i64 st ∧ W = w7)
            case first =>
              go_wp2_with fail
              all_goals go_meet
              all_goals exact ⟨by have := HMX.out; congr 1; omega, rfl⟩
            case rest =>
              obtain ⟨rfl, rfl⟩ := hcut
              clear hw7 hdb e0 e1' e2 e3 e4 e5 e6 a1 a7 a14
              by_cases g3 : st < dt
              · have g3d : decide (st ≥ dt) = false := by simp; omega
                have hwl : IntKind.i64.wrap (p.l + dg) = p.l + dg := IntWalk.i64_in _ (by omega)
                have hwt : IntKind.i64.wrap (st + dv) = st + dv := IntWalk.i64_in _ (by omega)
                by_cases g4 : p.l + dg ≤ X.v.gr
                · have g4d : decide (p.l + dg > X.v.gr) = false := by simp; omega
                  rw [if_pos ⟨hcl, g3, g4⟩] at HSD
                  go_wp2_with fail
                  go_quiet (fail)
                  have hbq : Below wc.heap.size wc (wc.drewN nq) := belowN (Below.refl _ _) nq
                  have h8 := H7.out.up hbq
                  have kd8 := KD.out.grow hbq
                  obtain ⟨w8, hw8⟩ : ∃ w8, wc.drewN nq = w8 := ⟨_, rfl⟩
                  rw [hw8] at h8 kd8 ⊢
                  clear hbq hw8 x1 x2 f1 f2 d3 d4 d5 d6
                  obtain ⟨⟨_, x1, _, _⟩, hfz⟩ := h8.cells
                  have f1 := hfz 1
                  have d5 := kd8.cell 6
                  simp at x1 d5
                  have h9 := h8.setT (st + dv)
                  have kd9 := kd8.far (p := ⟨wb, 1, none⟩) (by show db ≠ wb; omega) (.int .i64 (st + dv))
                  obtain ⟨w9, hw9⟩ : ∃ w9, w8.setCell ⟨wb, 1, none⟩ (.int .i64 (st + dv)) = w9 := ⟨_, rfl⟩
                  rw [hw9] at h9 kd9
                  have H9 := Lib.hid h9
                  obtain ⟨⟨_, _, y2, _⟩, hfz9⟩ := h9.cells
                  have yf2 := hfz9 2
                  have yd := kd9.cell 3
                  simp at y2 yd
                  have H10 := Lib.hid ((h9.setL (p.l + dg)).up (w' := (w9.setCell ⟨wb, 2, none⟩ (.int .i64 (p.l + dg))).drew) ((Below.refl _ _).drew))
                  clear h8 kd8 h9 kd9 hfz hfz9
                  go_wp2_with fail
                  go_region
                  clear hw9 x1 f1 d5 y2 yf2 yd
                  go_wp2_with fail
                  refine (note_any H10.out hvs (sn : Int) (p.t + ls) st).mono ?_
                  rintro e w11 ⟨rfl, h11⟩
                  have H11 := Lib.hid h11
                  clear h11
                  go_wp2_with fail
                  go_ret
                  rw [HSP.out, HSD.out]
                  exact ⟨rfl, H11.out⟩
                · have HSE : Hid (stepD X p (S.take k) (sn : Int) ⟨dc, dn, dk, dg, df, dt, dv⟩ = none) := Lib.hid (by rw [HSD.out, if_neg (fun h => g4 h.2.2)])
                  have g4d : decide (p.l + dg > X.v.gr) = true := by simp; omega
                  go_wp2_with fail
                  go_quiet (fail)
                  go_wp2_with fail
                  go_ret
                  rw [HSP.out, HSE.out]
                  exact ⟨⟨20, rfl, by decide⟩, (H7.out.up (belowN (Below.refl _ _) nq)).bel⟩
              · have HSE : Hid (stepD X p (S.take k) (sn : Int) ⟨dc, dn, dk, dg, df, dt, dv⟩ = none) := Lib.hid (by rw [HSD.out, if_neg (fun h => g3 h.2.1)])
                have g3d : decide (st ≥ dt) = true := by simp; omega
                go_wp2_with fail
                go_ret
                rw [HSP.out, HSE.out]
                exact ⟨⟨19, rfl, by decide⟩, H7.out.bel⟩
          · have HSE : Hid (stepD X p (S.take k) (sn : Int) ⟨dc, dn, dk, dg, df, dt, dv⟩ = none) := Lib.hid (by rw [HSD.out, if_neg (fun h => hcl h.1)])
            rw [decide_eq_false hcl]
            go_wp2_with fail
            go_ret
            rw [HSP.out, HSE.out]
            exact ⟨⟨22, rfl, by decide⟩, (H4.out.up (by go_grown)).bel⟩
end Go.Proofs.Ytmoakdplhfgipaa
