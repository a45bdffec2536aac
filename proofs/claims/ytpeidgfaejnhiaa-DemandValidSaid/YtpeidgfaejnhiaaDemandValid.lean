/- DemandValid: Check accepts what Make returns, for as many nodes and materials as the containers use, and the demands have their containers' nodes and kinds; the fixed examples hold. No condition. -/
import Derived.Test.YtpeidgfaejnhiaaAwake21
import Derived.Test.YtpeidgfaejnhiaaDemL
namespace Go.Proofs.Ytpeidgfaejnhiaa.demandValid
open Go.ChangeShapes Go.WideShapes Go.ChangeAt Go.RowKit
set_option linter.unusedVariables false

theorem dchk_val {e0 n m : Int} {w : World} {A : Option Addr} {nL cL : Nat} {L : List Dem} (he : demsE L n m = e0) (h : RdT w (· < w.heap.size) 7 Dem.cs A nL L) (hn : nL ≤ maxLen) (hcap : nL ≤ cL) :
    Calls Try.prog 16 #[.slice A nL cL, .int .i64 n, .int .i64 m] w fun e w' => e = .returned (.int .i64 e0) ∧ Below w.heap.size w w' := by rw [← he]; exact dchk_any h hn hcap n m
theorem if_go {c : Bool} {A E : Prop} (hc : c = true) (h : A) : if c = true then A else E := by rw [if_pos hc]; exact h

set_option maxRecDepth 100000 in
set_option maxHeartbeats 3200000 in
theorem walk (w : World) (v0 : Value) (hv0 : IsCase w v0) :
    Calls Try.prog 7 #[v0] w fun e w' => e = .returned (.bool true) ∧ Below w.heap.size w w' := by
  obtain ⟨T, day, level, f, t, v, rfl, hIn, hd, _, _, _, _⟩ := hv0
  obtain ⟨AC, nC, cC, C, AS, nS, cS, S, AF, nF, cF, F⟩ := T
  have K0 : Hid (Blk (w.alloc (.cells (Tri.xs ⟨AC, nC, cC, C, AS, nS, cS, S, AF, nF, cF, F⟩ day level f t v) 28)) w.heap.size 28 (Tri.xs ⟨AC, nC, cC, C, AS, nS, cS, S, AF, nF, cF, F⟩ day level f t v)) := Lib.hid (Blk.new _ _ _)
  have HB0 : Hid (Below w.heap.size w (w.alloc (.cells (Tri.xs ⟨AC, nC, cC, C, AS, nS, cS, S, AF, nF, cF, F⟩ day level f t v) 28))) := Lib.hid ((Below.refl _ w).alloc (Nat.le_refl _) _)
  have hcn : nC ≤ maxLen := hIn.cn
  have HCL : Hid (C.length = nC) := Lib.hid hIn.c.1
  unfold maxLen at hcn
  have HIN := Lib.hid hIn
  have HD := Lib.hid hd
  clear hIn hd
  go_enter Try.func7, Try.ntmps7
  go_wp2_with fail
  refine (great_any (HIN.out.up HB0.out) day level f t v).mono ?_
  rintro e w1 ⟨b, rfl, hb1⟩
  have HB1 := Lib.hid (bthen HB0.out hb1 HB0.out.size)
  have K1 := Lib.hid (K0.out.grow hb1)
  obtain ⟨q0, q1, q2, q3, q4, q5, q6, q7⟩ := casCells K1.out
  have z1 := K1.out.lt
  simp only at q0 q1 q2
  clear hb1
  cases b
  · go_wp2_with fail
    refine (made_any (HIN.out.up HB1.out) day level f t v HD.out).mono ?_
    simp only
    obtain ⟨L, hL⟩ : ∃ L, makL C S F day level f t v = L := ⟨_, rfl⟩
    obtain ⟨E, hE⟩ : ∃ E, makE C S F day level f t v = E := ⟨_, rfl⟩
    have HL := Lib.hid hL
    have HE := Lib.hid hE
    rw [hL, hE]
    clear hL hE
    rintro e w2 ⟨A, c, rfl, hcap, hr, hb2⟩
    have HR := Lib.hid hr
    have HCAP := Lib.hid hcap
    have HB2 := Lib.hid (bthen HB1.out hb2 HB1.out.size)
    have K2 := Lib.hid (K1.out.grow hb2)
    clear q0 q1 q2 q3 q4 q5 q6 q7 hcap hr hb2
    by_cases h0 : E = 0
    · subst h0
      obtain ⟨_, _, h3, h4⟩ := mak_zero HE.out
      have hLA : L = allD C S F day level f t v := HL.out.symm.trans h4
      have hl32 : L.length ≤ 32 := by rw [hLA]; exact h3
      have HDI : Hid (∀ d ∈ L, ∃ (j : Nat) (x : Con), d.con = (j : Int) ∧ C[j]? = some x ∧ j < 256 ∧ d.node = x.node ∧ d.kind = x.kind ∧ d.gr ≤ x.gr ∧ d.from_ = f ∧ d.to_ = t ∧ d.serv = v ∧ 0 ≤ d.node ∧ d.node < 64 ∧ 0 ≤ d.kind ∧ d.kind < 16 ∧ 0 ≤ d.gr ∧ d.gr ≤ 1073741824) := Lib.hid (by rw [hLA]; exact fun d hd => dem_in HE.out hd)
      have HK1 : Hid (demsE L (mxL Dem.node L) (mxL Dem.kind L) = 0) := Lib.hid (by rw [hLA]; exact dems_ok HE.out)
      have HK2 : Hid (L ≠ [] → demsE L (mxL Dem.node L - 1) (mxL Dem.kind L) = 7) := Lib.hid (by rw [hLA]; exact dems_less HE.out)
      have HNM : Hid (L.length ≤ maxLen) := Lib.hid (by unfold maxLen; omega)
      clear h3 h4 hLA
      go_wp2
      go_loopw [5, 6, 7] (fun a b i wr => ∃ (k : Nat) (N M : Int), k ≤ L.length ∧ i = .int .i64 (k : Nat) ∧ a = .int .i64 N ∧ b = .int .i64 M ∧ N = mxL Dem.node (L.take k) ∧ M = mxL Dem.kind (L.take k) ∧ 0 ≤ N ∧ N ≤ 64 ∧ 0 ≤ M ∧ M ≤ 16 ∧ Below w2.heap.size w2 wr) (fun _ _ i _ => L.length - (intOf i).toNat)
      case atStart => exact ⟨0, 0, 0, Nat.zero_le _, rfl, rfl, rfl, rfl, rfl, by omega, by omega, by omega, by omega, Below.refl _ _⟩
      case round =>
        obtain ⟨k, N, M, hk, rfl, rfl, rfl, hN, hM, n0, n1, m0, m1, hbel⟩ := hrel
        have HN := Lib.hid hN
        have HM := Lib.hid hM
        have HB := Lib.hid hbel
        have HBW := Lib.hid (bthen HB2.out hbel HB2.out.size)
        obtain ⟨q0, q1, q2, q3, q4, q5, q6, q7⟩ := casCells (K2.out.grow hbel)
        have hzr := (K2.out.grow hbel).lt
        simp only at q0 q1 q2
        clear hbel hN hM
        by_cases hlt : k < L.length
        · obtain ⟨d, hd⟩ := at_lt (l := L) (k := k) hlt
          obtain ⟨bL, oL, hA, hbL, hcl⟩ := HR.out.2 (by omega)
          subst hA
          have hbr : bL < wr.heap.size := Nat.lt_of_lt_of_le hbL HB.out.size
          have hcd := (HR.out.cells_ hlt hd HB.out).2
          have c0 := hcd 0 _ rfl
          rw [Nat.add_zero] at c0
          have c1 := hcd 1 _ rfl
          have c2 := hcd 2 _ rfl
          have c3 := hcd 3 _ rfl
          have c4 := hcd 4 _ rfl
          have c5 := hcd 5 _ rfl
          have c6 := hcd 6 _ rfl
          obtain ⟨j, x, e1, hx, hj, e2, e3, e4, e5, e6, e7, g1, g2, g3, g4, _, _⟩ := HDI.out d (List.mem_of_getElem? hd)
          have hjn : j < nC := by rw [← HCL.out]; exact (List.getElem?_eq_some_iff.1 hx).1
          have HTN : Hid (mxL Dem.node (L.take (k + 1)) = max N (d.node + 1)) := Lib.hid (by rw [List.take_add_one, hd, HN.out]; exact mxL_snoc _ _ _)
          have HTM : Hid (mxL Dem.kind (L.take (k + 1)) = max M (d.kind + 1)) := Lib.hid (by rw [List.take_add_one, hd, HM.out]; exact mxL_snoc _ _ _)
          obtain ⟨bC, oC, y, hAC, hy, hbC, hcy⟩ := con_cells HIN.out hjn HBW.out
          simp only at hAC hy
          subst hAC
          obtain rfl : y = x := Option.some.inj (hy.symm.trans hx)
          have d0 := hcy 0 _ rfl
          rw [Nat.add_zero] at d0
          have d1 := hcy 1 _ rfl
          have d2 := hcy 2 _ rfl
          have d3 := hcy 3 _ rfl
          have d4 := hcy 4 _ rfl
          obtain ⟨con, node, kind, gr, fr, to_, serv⟩ := d
          obtain ⟨id, ykind, lit, ygr, ynode⟩ := y
          simp only at e1 e2 e3 e4 e5 e6 e7 g1 g2 g3 g4 c0 c1 c2 c3 c4 c5 c6 d0 d1 d2 d3 d4 HTN HTM
          subst e1
          subst e2
          subst e3
          subst e5
          subst e6
          subst e7
          have x1 : (0 : Int) ≤ (k : Int) := by omega
          have x2 : (k : Int) < (L.length : Int) := by omega
          have y1 : (0 : Int) ≤ (j : Int) := by omega
          have y2 : (j : Int) < (nC : Int) := by omega
          have p1 : decide ((j : Int) < 0) = false := decide_eq_false (by omega)
          have p2 : decide (ygr < gr) = false := decide_eq_false (by omega)
          clear hcd hcl hd hx hy hcy
          have HS : Hid (∀ W, Below wr.heap.size wr W → (W.cell? ⟨w.heap.size, 0, none⟩ = some (.slice (some ⟨bC, oC, none⟩) nC cC) ∧ W.cell? ⟨bL, oL + k * 7, none⟩ = some (.int .i64 (j : Int)) ∧ W.cell? ⟨bC, oC + j * 5, none⟩ = some (.string id) ∧ W.cell? ⟨bC, oC + j * 5 + 1, none⟩ = some (.int .i64 kind) ∧ W.cell? ⟨bC, oC + j * 5 + 2, none⟩ = some (.int .i64 lit) ∧ W.cell? ⟨bC, oC + j * 5 + 3, none⟩ = some (.int .i64 ygr) ∧ W.cell? ⟨bC, oC + j * 5 + 4, none⟩ = some (.int .i64 node))) := Lib.hid (fun W hW => ⟨(hW.cell hzr).trans q0, (hW.cell hbr).trans c0, (hW.cell hbC).trans d0, (hW.cell hbC).trans d1, (hW.cell hbC).trans d2, (hW.cell hbC).trans d3, (hW.cell hbC).trans d4⟩)
          go_wp2_with fail
          go_quiet (fail)
          go_wp2_with fail
          have BQ : Hid (Below wr.heap.size wr (wr.drewN nq).drew) := Lib.hid ((belowN (Below.refl _ _) _).drew)
          have BP : Hid (Below wr.heap.size wr (wr.drewN nq)) := Lib.hid (belowN (Below.refl _ _) _)
          have kz := Blk.new (wr.drewN (nq + 1)) 49 #[.string ⟨#[]⟩, .int .i64 0, .int .i64 0, .int .i64 0, .int .i64 0]
          have hz1 : (wr.drewN (nq + 1)).heap.size = wr.heap.size := rfl
          rw [hz1] at kz
          have BZ : Hid (Below wr.heap.size wr ((wr.drewN (nq + 1)).alloc (.cells #[.string ⟨#[]⟩, .int .i64 0, .int .i64 0, .int .i64 0, .int .i64 0] 49))) := Lib.hid ((belowN (Below.refl _ _) (nq + 1)).alloc (by rw [hz1]; exact Nat.le_refl _) _)
          have BS : Hid (Below wr.heap.size wr ((((((( wr.drewN (nq + 1)).alloc (.cells #[.string ⟨#[]⟩, .int .i64 0, .int .i64 0, .int .i64 0, .int .i64 0] 49)).setCell ⟨wr.heap.size, 0, none⟩ (.string id)).setCell ⟨wr.heap.size, 1, none⟩ (.int .i64 kind)).setCell ⟨wr.heap.size, 2, none⟩ (.int .i64 lit)).setCell ⟨wr.heap.size, 3, none⟩ (.int .i64 ygr)).setCell ⟨wr.heap.size, 4, none⟩ (.int .i64 node))) := Lib.hid (((((BZ.out.setCell (Nat.le_refl _) _).setCell (Nat.le_refl _) _).setCell (Nat.le_refl _) _).setCell (Nat.le_refl _) _).setCell (Nat.le_refl _) _)
          have KS : Hid (Blk ((((((( wr.drewN (nq + 1)).alloc (.cells #[.string ⟨#[]⟩, .int .i64 0, .int .i64 0, .int .i64 0, .int .i64 0] 49)).setCell ⟨wr.heap.size, 0, none⟩ (.string id)).setCell ⟨wr.heap.size, 1, none⟩ (.int .i64 kind)).setCell ⟨wr.heap.size, 2, none⟩ (.int .i64 lit)).setCell ⟨wr.heap.size, 3, none⟩ (.int .i64 ygr)).setCell ⟨wr.heap.size, 4, none⟩ (.int .i64 node)) wr.heap.size 49 #[.string id, .int .i64 kind, .int .i64 lit, .int .i64 ygr, .int .i64 node]) := Lib.hid (by
            have := ((((kz.set_ 0 (.string id)).set_ 1 (.int .i64 kind)).set_ 2 (.int .i64 lit)).set_ 3 (.int .i64 ygr)).set_ 4 (.int .i64 node)
            simpa using this)
          have kz0 := kz.cell 0
          have kz1 := kz.cell 1
          have kz2 := kz.cell 2
          have kz3 := kz.cell 3
          have kz4 := kz.cell 4
          have fz0 := kz.frozen 0
          have fz1 := kz.frozen 1
          have fz2 := kz.frozen 2
          have fz3 := kz.frozen 3
          have fz4 := kz.frozen 4
          simp at kz0 kz1 kz2 kz3 kz4
          clear kz
          go_region_held3 (fun W => W.cell? ⟨w.heap.size, 0, none⟩ = some (.slice (some ⟨bC, oC, none⟩) nC cC) ∧ W.cell? ⟨bL, oL + k * 7, none⟩ = some (.int .i64 (j : Int)) ∧ W.cell? ⟨bC, oC + j * 5, none⟩ = some (.string id) ∧ W.cell? ⟨bC, oC + j * 5 + 1, none⟩ = some (.int .i64 kind) ∧ W.cell? ⟨bC, oC + j * 5 + 2, none⟩ = some (.int .i64 lit) ∧ W.cell? ⟨bC, oC + j * 5 + 3, none⟩ = some (.int .i64 ygr) ∧ W.cell? ⟨bC, oC + j * 5 + 4, none⟩ = some (.int .i64 node))
            (first | with_reducible exact HS.out _ BP.out | with_reducible exact HS.out _ BQ.out | with_reducible exact HS.out _ BZ.out | with_reducible exact HS.out _ BS.out) (fail)
          clear kz0 kz1 kz2 kz3 kz4 fz0 fz1 fz2 fz3 fz4 BZ BQ BP HS hz1
          obtain ⟨w5, hw5⟩ : ∃ w5, ((((((( wr.drewN (nq + 1)).alloc (.cells #[.string ⟨#[]⟩, .int .i64 0, .int .i64 0, .int .i64 0, .int .i64 0] 49)).setCell ⟨wr.heap.size, 0, none⟩ (.string id)).setCell ⟨wr.heap.size, 1, none⟩ (.int .i64 kind)).setCell ⟨wr.heap.size, 2, none⟩ (.int .i64 lit)).setCell ⟨wr.heap.size, 3, none⟩ (.int .i64 ygr)).setCell ⟨wr.heap.size, 4, none⟩ (.int .i64 node)) = w5 := ⟨_, rfl⟩
          rw [hw5] at BS KS ⊢
          clear hw5
          have r5 := (BS.out.cell (p := ⟨w.heap.size, 5, none⟩) hzr).trans q5
          have r6 := (BS.out.cell (p := ⟨w.heap.size, 6, none⟩) hzr).trans q6
          have r7 := (BS.out.cell (p := ⟨w.heap.size, 7, none⟩) hzr).trans q7
          have l1 := (BS.out.cell (p := ⟨bL, oL + k * 7 + 1, none⟩) hbr).trans c1
          have l2 := (BS.out.cell (p := ⟨bL, oL + k * 7 + 2, none⟩) hbr).trans c2
          have l3 := (BS.out.cell (p := ⟨bL, oL + k * 7 + 3, none⟩) hbr).trans c3
          have l4 := (BS.out.cell (p := ⟨bL, oL + k * 7 + 4, none⟩) hbr).trans c4
          have l5 := (BS.out.cell (p := ⟨bL, oL + k * 7 + 5, none⟩) hbr).trans c5
          have l6 := (BS.out.cell (p := ⟨bL, oL + k * 7 + 6, none⟩) hbr).trans c6
          have s0 := KS.out.cell 0
          have s1 := KS.out.cell 1
          have s2 := KS.out.cell 2
          have s3 := KS.out.cell 3
          have s4 := KS.out.cell 4
          simp at s0 s1 s2 s3 s4
          have HB5 := Lib.hid (bthen HB.out BS.out HB.out.size)
          clear c0 c1 c2 c3 c4 c5 c6 d0 d1 d2 d3 d4 q0 q1 q2 q3 q4 q5 q6 q7
          go_wp2_with fail
          go_quiet (fail)
          go_wp2_with fail
          have v1 : IntKind.i64.wrap (node + 1) = node + 1 := IntWalk.i64_in _ (by omega)
          have v2 : IntKind.i64.wrap (kind + 1) = kind + 1 := IntWalk.i64_in _ (by omega)
          go_quiet (fail)
          clear v1 v2
          go_wp2
          go_roundw
          case rel => exact ⟨k + 1, max N (node + 1), max M (kind + 1), by omega, by go_num, congrArg (Value.int .i64) (by split <;> omega), congrArg (Value.int .i64) (by split <;> omega), HTN.out.symm, HTM.out.symm, by omega, by omega, by omega, by omega, belowN HB5.out _⟩
          case measure => simp [intOf]; omega
        · have e : k = L.length := by omega
          subst e
          obtain rfl : N = mxL Dem.node L := by rw [HN.out, List.take_length]
          obtain rfl : M = mxL Dem.kind L := by rw [HM.out, List.take_length]
          have HRr := Lib.hid (HR.out.up HB.out)
          obtain ⟨N, hNN⟩ : ∃ N, mxL Dem.node L = N := ⟨_, rfl⟩
          obtain ⟨M, hMM⟩ : ∃ M, mxL Dem.kind L = M := ⟨_, rfl⟩
          rw [hNN, hMM] at HK1 HK2
          rw [hNN, hMM]
          rw [hNN] at n0 n1
          rw [hMM] at m0 m1
          clear HN HM hNN hMM q0 q1 q2 q3 q4 q5 q6 q7
          by_cases hne : L = []
          · have hl0 : ((L.length : Int) == 0) = true := by rw [hne]; rfl
            clear hne
            go_wp2_with (first
              | (go_at_call 16; ((with_reducible refine (dchk_val HK1.out HRr.out HNM.out HCAP.out).mono ?_); rintro e w6 ⟨rfl, hb6⟩; have HB6 := Lib.hid (bthen HBW.out hb6 HBW.out.size); clear hb6))
              | (go_at_call 10; refine (awake_any _).mono ?_; rintro e w9 ⟨rfl, hb9⟩; have HB9 := Lib.hid (bthen HB6.out hb9 HB6.out.size); clear hb9))
            go_ret
            exact ⟨rfl, HB9.out⟩
          · have hl0 : ((L.length : Int) == 0) = false := by
              have : L.length ≠ 0 := fun h => hne (List.eq_nil_of_length_eq_zero h)
              simp; exact hne
            have H2 := Lib.hid (HK2.out hne)
            clear hne
            go_wp2_with (first
              | (go_at_call 16; ((with_reducible refine (dchk_val HK1.out HRr.out HNM.out HCAP.out).mono ?_); rintro e w6 ⟨rfl, hb6⟩; have HB6 := Lib.hid (bthen HBW.out hb6 HBW.out.size); have HR6 := Lib.hid (HRr.out.up hb6); clear hb6))
              | (go_at_call 16; ((with_reducible refine (dchk_val H2.out HR6.out HNM.out HCAP.out).mono ?_); rintro e w7 ⟨rfl, hb7⟩; have HB7 := Lib.hid (bthen HB6.out hb7 HB6.out.size); clear hb7))
              | (go_at_call 10; refine (awake_any _).mono ?_; rintro e w9 ⟨rfl, hb9⟩; have HB9 := Lib.hid (bthen HB7.out hb9 HB7.out.size); clear hb9))
            go_ret
            exact ⟨rfl, HB9.out⟩
    · have hq : (E != 0) = true := by simpa using h0
      clear h0
      go_wp2_with fail
      refine (awake_any _).mono ?_
      rintro e w9 ⟨rfl, hb9⟩
      have HB := Lib.hid (bthen HB2.out hb9 HB2.out.size)
      clear hb9
      go_wp2
      go_ret
      exact ⟨rfl, HB.out⟩
  · go_wp2_with fail
    refine (awake_any _).mono ?_
    rintro e w9 ⟨rfl, hb9⟩
    have HB := Lib.hid (bthen HB1.out hb9 HB1.out.size)
    clear hb9
    go_wp2
    go_ret
    exact ⟨rfl, HB.out⟩

theorem own : ownKnob Try.prog.godebug = none := by kernel_rfl
theorem laidOut : laidOutB Try.prog = true := by kernel_rfl
set_option maxRecDepth 100000 in
theorem lifted (os : Os) (started : os.Started) (H : Type) (enc : TypeId × Value → H) :
    ReturnsInHanded {} Try.checked os 7 .any (Rows.demandValidSpec.pre6 enc Try.prog Try.f7 Rows.demandValidRow.domain false) (Rows.demandValidSpec.post enc Try.prog Try.f7 false true false false) := by
  refine returnsInHanded_of_change (C := Try.checked) own started (by kernel_rfl) Try.func7
    (ChangeSpec.witness6 (enc := enc) (C := Try.checked) false ⟨#[], #[.agg #[.slice none 0 0, .slice none 0 0, .slice none 0 0, .int .i64 0, .int .i64 0, .int .i64 0, .int .i64 0, .int .i64 0]], []⟩ 8 (by kernel_rfl) (by kernel_rfl) (by kernel_rfl) (by kernel_rfl)) ?_
  intro W base args ds gs before hval0 hW hcnd _
  have hval : ∀ (j : Nat) t v, Try.f7.params[j]? = some t → args[j]? = some v → Value.okWide Try.prog W .any base t v := hval0
  have hW' := hW
  obtain ⟨p, q, hA0, hV, rfl, hfz, hnd⟩ := hW
  have hA : DataW.TrodAll enc Try.prog W 0 (fun _ => true) true Try.f7.params.toList args.toList ds p := hA0
  rw [Try.params7] at hA hval
  obtain ⟨v0, vs0, d0, ds0, p0, q0, hargs, rfl, rfl, h0, r0⟩ := trodAll_cons hA
  obtain ⟨rfl, rfl, rfl⟩ := trodAll_nil r0
  obtain rfl : args = #[v0] := by cases args; simp_all
  obtain ⟨rfl, rfl⟩ := trodVars_none hV
  have k0 := h0
  have lt0 : ∀ x ∈ p0, x.block < W.heap.size := by obtain ⟨m, hm⟩ := k0; exact DataW.trod_lt m _ _ _ hm
  have O0 := open_case W (hval 0 28 v0 rfl rfl) h0
  clear hA0 hval0
  refine (walk W v0 O0).mono fun e W' ⟨he, bel⟩ => ?_
  subst he
  exact ⟨_, rfl, _, _, _, [], _, [], hW', trodAll_mk1 (shut_bool Try.underlying4 _), (trodAll_cons_mk (Below.trod laidOut (by kernel_rfl) (of_decide_eq_true (by kernel_rfl)) k0 bel lt0) trodAll_mk0), rfl, bel.frame _, fun h => by cases h⟩
theorem over : Rows.demandValidRow.holds Try.pinned (OpenSpec.ofChange Rows.demandValidSpec) :=
  OpenClaim.holds_of_wide 7 Try.f7 rfl rfl rfl rfl rfl rfl rfl ⟨rfl, rfl, rfl, rfl, rfl⟩ rfl rfl rfl rfl rfl (by kernel_rfl) Try.func7 (by kernel_rfl)
    (of_decide_eq_true (by kernel_rfl)) (by unfold Func.isWrapper; first | (rw [if_pos (by decide +kernel)]; kernel_rfl) | (rw [if_neg (by decide +kernel)]; exact ⟨rfl, rfl⟩))
    (fun os started H enc _ => lifted os started H enc)
theorem proved : Rows.DemandValidSaid := over
#print axioms proved

end Go.Proofs.Ytpeidgfaejnhiaa.demandValid
