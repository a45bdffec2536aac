/- DemandLower: with a lower level no demand is lost, and a container whose true mass, within its fill, has reached the level has a demand; the fixed examples hold. No condition. -/
import Derived.Test.YtpeidgfaejnhiaaAwake21
import Derived.Test.YtpeidgfaejnhiaaDemL
namespace Go.Proofs.Ytpeidgfaejnhiaa.demandLower
open Go.ChangeShapes Go.WideShapes Go.ChangeAt Go.RowKit
set_option linter.unusedVariables false

theorem listed_val {b : Bool} {w : World} {A : Option Addr} {n c : Nat} {L : List Dem} {con : Int} (hb : (L.any fun d => decide (d.con = con)) = b) (h : RdT w (· < w.heap.size) 7 Dem.cs A n L) (hn : n ≤ maxLen) :
    Calls Try.prog 20 #[.slice A n c, .int .i64 con] w fun e w' => e = .returned (.bool b) ∧ Below w.heap.size w w' := by rw [← hb]; exact listed_any h hn con

set_option maxRecDepth 100000 in
set_option maxHeartbeats 3200000 in
theorem walk (w : World) (v0 : Value) (hv0 : IsCase w v0) (v1 : Value) (hv1 : IsInt .i64 v1) (v2 : Value) (hv2 : IsInt .i64 v2) :
    Calls Try.prog 8 #[v0, v1, v2] w fun e w' => e = .returned (.bool true) ∧ Below w.heap.size w w' := by
  obtain ⟨T, day, level, f, t, v, rfl, hIn, hd, _, _, _, _⟩ := hv0
  obtain ⟨level2, rfl, _⟩ := hv1
  obtain ⟨mass, rfl, _⟩ := hv2
  obtain ⟨AC, nC, cC, C, AS, nS, cS, S, AF, nF, cF, F⟩ := T
  have K0 : Hid (Blk (w.alloc (.cells (Tri.xs ⟨AC, nC, cC, C, AS, nS, cS, S, AF, nF, cF, F⟩ day level f t v) 28)) w.heap.size 28 (Tri.xs ⟨AC, nC, cC, C, AS, nS, cS, S, AF, nF, cF, F⟩ day level f t v)) := Lib.hid (Blk.new _ _ _)
  have HB0 : Hid (Below w.heap.size w (w.alloc (.cells (Tri.xs ⟨AC, nC, cC, C, AS, nS, cS, S, AF, nF, cF, F⟩ day level f t v) 28))) := Lib.hid ((Below.refl _ w).alloc (Nat.le_refl _) _)
  have hcn : nC ≤ maxLen := hIn.cn
  have hfn : nF ≤ maxLen := hIn.fn
  have HCL : Hid (C.length = nC) := Lib.hid hIn.c.1
  have HFL : Hid (F.length = nF) := Lib.hid hIn.f.1
  have HML : Hid (∀ l : Int, (makL C S F day l f t v).length ≤ maxLen) := Lib.hid (fun l => mak_len hIn.cn hIn.c.1)
  unfold maxLen at hcn hfn
  have HIN := Lib.hid hIn
  have HD := Lib.hid hd
  clear hIn hd
  go_enter Try.func8, Try.ntmps8
  go_wp2_with fail
  refine (great_any (HIN.out.up HB0.out) day level f t v).mono ?_
  rintro e w1 ⟨b, rfl, hb1⟩
  have HB1 := Lib.hid (bthen HB0.out hb1 HB0.out.size)
  have K1 := Lib.hid (K0.out.grow hb1)
  obtain ⟨q0, q1, q2, q3, q4, q5, q6, q7⟩ := casCells K1.out
  have z1 := K1.out.lt
  simp only at q0 q1 q2
  clear hb1
  cases b
  · by_cases hl : level < level2
    · go_wp2_with fail
      refine (awake_any _).mono ?_
      rintro e w9 ⟨rfl, hb9⟩
      have HB := Lib.hid (bthen HB1.out hb9 HB1.out.size)
      clear hb9
      go_wp2
      go_ret
      exact ⟨rfl, HB.out⟩
    have hl2 : level2 ≤ level := by omega
    go_wp2_with fail
    refine (made_any (HIN.out.up HB1.out) day level f t v HD.out).mono ?_
    simp only
    obtain ⟨L, hL⟩ : ∃ L, makL C S F day level f t v = L := ⟨_, rfl⟩
    obtain ⟨E, hE⟩ : ∃ E, makE C S F day level f t v = E := ⟨_, rfl⟩
    have HL := Lib.hid hL
    have HE := Lib.hid hE
    rw [hL, hE]
    clear hL hE
    rintro e w2 ⟨A, c, rfl, hcap, hr, hb2⟩
    have HR := Lib.hid hr
    have HB2 := Lib.hid (bthen HB1.out hb2 HB1.out.size)
    have K2 := Lib.hid (K1.out.grow hb2)
    clear q0 q1 q2 q3 q4 q5 q6 q7 hcap hr hb2
    obtain ⟨q0, q1, q2, q3, q4, q5, q6, q7⟩ := casCells K2.out
    have z2 := K2.out.lt
    simp only at q0 q1 q2
    have HBY := Lib.hid (HB2.out.alloc HB2.out.size (.cells (Tri.xs ⟨AC, nC, cC, C, AS, nS, cS, S, AF, nF, cF, F⟩ day level2 f t v) 28))
    have HRY := Lib.hid (HR.out.up ((Below.refl _ _).alloc (Nat.le_refl _) (.cells (Tri.xs ⟨AC, nC, cC, C, AS, nS, cS, S, AF, nF, cF, F⟩ day level2 f t v) 28)))
    have KY := Lib.hid (K2.out.alloc (.cells (Tri.xs ⟨AC, nC, cC, C, AS, nS, cS, S, AF, nF, cF, F⟩ day level2 f t v) 28))
    go_wp2_with fail
    refine (made_any (HIN.out.up HBY.out) day level2 f t v HD.out).mono ?_
    simp only
    obtain ⟨M, hM⟩ : ∃ M, makL C S F day level2 f t v = M := ⟨_, rfl⟩
    obtain ⟨G, hG⟩ : ∃ G, makE C S F day level2 f t v = G := ⟨_, rfl⟩
    have HM := Lib.hid hM
    have HG := Lib.hid hG
    rw [hM, hG]
    clear hM hG
    rintro e w3 ⟨B, c2, rfl, hcap, hr, hb3⟩
    have HR3 := Lib.hid (HRY.out.up hb3)
    have HM3 := Lib.hid hr
    have HB3 := Lib.hid (bthen HBY.out hb3 HBY.out.size)
    have K3 := Lib.hid (KY.out.grow hb3)
    clear q0 q1 q2 q3 q4 q5 q6 q7 hcap hr hb3
    by_cases h0 : E = 0
    · subst h0
      obtain ⟨h1, h2, h3, h4⟩ := mak_zero HE.out
      have HT := Lib.hid h1
      have HLA : Hid (L = allD C S F day level f t v) := Lib.hid (HL.out.symm.trans h4)
      obtain ⟨_, _, hf0, _⟩ := tsk_zero h1
      have HFO := Lib.hid (fil_ok hf0).2
      have HLL : Hid (L.length ≤ maxLen) := Lib.hid (by rw [← HL.out]; exact HML.out level)
      have HMM : Hid (M.length ≤ maxLen) := Lib.hid (by rw [← HM.out]; exact HML.out level2)
      clear h1 h2 h3 h4 hf0
      go_wp2
      go_loopw [12] (fun i wr => ∃ k : Nat, k ≤ nF ∧ i = .int .i64 (k : Nat) ∧ Below w3.heap.size w3 wr) (fun i _ => nF - (intOf i).toNat)
      case atStart => exact ⟨0, Nat.zero_le _, rfl, Below.refl _ _⟩
      case round =>
        obtain ⟨k, hk, rfl, hbel⟩ := hrel
        have HB := Lib.hid hbel
        have HBW := Lib.hid (bthen HB3.out hbel HB3.out.size)
        obtain ⟨q0, q1, q2, q3, q4, q5, q6, q7⟩ := casCells (K3.out.grow hbel)
        have hzr := (K3.out.grow hbel).lt
        simp only at q0 q1 q2
        have HRr := Lib.hid (HR3.out.up hbel)
        clear hbel
        by_cases hlt : k < nF
        · obtain ⟨x, hx⟩ := at_lt (l := F) (k := k) (by rw [HFL.out]; exact hlt)
          obtain ⟨bF, oF, hAF, _, hbF, hcx⟩ := fil_cells HIN.out hx HBW.out
          simp only at hAF
          subst hAF
          obtain ⟨con, lo, hi⟩ := x
          have c0 := hcx 0 _ rfl
          rw [Nat.add_zero] at c0
          have c1 := hcx 1 _ rfl
          have c2 := hcx 2 _ rfl
          obtain ⟨f1, f2, _, _, _⟩ := HFO.out _ (List.mem_of_getElem? hx)
          simp only at f1 f2
          rw [HCL.out] at f2
          obtain ⟨ci, rfl⟩ := Int.eq_ofNat_of_zero_le f1
          have hci : ci < nC := by omega
          obtain ⟨bC, oC, y, hAC, hy, hbC, hcy⟩ := con_cells HIN.out hci HBW.out
          simp only at hAC hy
          subst hAC
          obtain ⟨id, kind, lit, gr, node⟩ := y
          have d0 := hcy 0 _ rfl
          rw [Nat.add_zero] at d0
          have d1 := hcy 1 _ rfl
          have d2 := hcy 2 _ rfl
          have d3 := hcy 3 _ rfl
          have d4 := hcy 4 _ rfl
          obtain ⟨lv, hlv⟩ : ∃ lv, levV gr mass = lv := ⟨_, rfl⟩
          obtain ⟨le, hle⟩ : ∃ le, levE gr mass = le := ⟨_, rfl⟩
          have HLV := Lib.hid hlv
          have HLE := Lib.hid hle
          have HX := Lib.hid hx
          have HY := Lib.hid hy
          have x1 : (0 : Int) ≤ (k : Int) := by omega
          have x2 : (k : Int) < (nF : Int) := by omega
          have y1 : (0 : Int) ≤ (ci : Int) := by omega
          have y2 : (ci : Int) < (nC : Int) := by omega
          have HBA := Lib.hid (HB.out.alloc HB.out.size (.cells #[.string id, .int .i64 kind, .int .i64 lit, .int .i64 gr, .int .i64 node] 49))
          have HRA := Lib.hid (HRr.out.up ((Below.refl _ _).alloc (Nat.le_refl _) (.cells #[.string id, .int .i64 kind, .int .i64 lit, .int .i64 gr, .int .i64 node] 49)))
          clear hcx hcy hx hy hlv hle f1 f2
          by_cases hz : le = 0
          · subst hz
            by_cases g1 : lv < level
            · go_wp2_with (go_at_call 19; ((with_reducible refine (level_val HLV.out HLE.out _).mono ?_); rintro e w' ⟨rfl, rfl⟩))
              go_roundw
              case rel => exact ⟨k + 1, by omega, by go_num, HBA.out⟩
              case measure => simp [intOf]; omega
            by_cases g2 : mass < lo
            · go_wp2_with (go_at_call 19; ((with_reducible refine (level_val HLV.out HLE.out _).mono ?_); rintro e w' ⟨rfl, rfl⟩))
              go_roundw
              case rel => exact ⟨k + 1, by omega, by go_num, HBA.out⟩
              case measure => simp [intOf]; omega
            by_cases g3 : hi < mass
            · go_wp2_with (go_at_call 19; ((with_reducible refine (level_val HLV.out HLE.out _).mono ?_); rintro e w' ⟨rfl, rfl⟩))
              go_roundw
              case rel => exact ⟨k + 1, by omega, by go_num, HBA.out⟩
              case measure => simp [intOf]; omega
            have HLS : Hid ((L.any fun d => decide (d.con = (ci : Int))) = true) := Lib.hid (by
              rw [HLA.out]
              refine listed_is HY.out (rea_nz.2 (.inr ?_))
              exact full_of HT.out HY.out HX.out rfl HLE.out (by rw [HLV.out]; omega) (by simp only; omega))
            go_wp2_with (first
              | (go_at_call 19; ((with_reducible refine (level_val HLV.out HLE.out _).mono ?_); rintro e w' ⟨rfl, rfl⟩))
              | (go_at_call 20; ((with_reducible refine (listed_val HLS.out HRA.out HLL.out).mono ?_); rintro e w7 ⟨rfl, hb7⟩; have HB7 := Lib.hid (bthen HBA.out hb7 HBA.out.size); clear hb7)))
            go_roundw
            case rel => exact ⟨k + 1, by omega, by go_num, HB7.out⟩
            case measure => simp [intOf]; omega
          · have hzq : (le != 0) = true := by simpa using hz
            go_wp2_with (go_at_call 19; ((with_reducible refine (level_val HLV.out HLE.out _).mono ?_); rintro e w' ⟨rfl, rfl⟩))
            go_roundw
            case rel => exact ⟨k + 1, by omega, by go_num, HBA.out⟩
            case measure => simp [intOf]; omega
        · have e : k = nF := by omega
          subst e
          by_cases hg0 : G = 0
          · subst hg0
            have HMA : Hid (M = allD C S F day level2 f t v) := Lib.hid (HM.out.symm.trans (mak_zero HG.out).2.2.2)
            have HMr := Lib.hid ((HM3.out.up HB.out))
            obtain ⟨wo, rfl⟩ : ∃ wo : World, wo = wr := ⟨_, rfl⟩
            have hLn : L.length ≤ maxLen := HLL.out
            unfold maxLen at hLn
            go_wp2
            clear q0 q1 q2 q3 q4 q5 q6 q7
            go_loopw [16] (fun i wx => ∃ j : Nat, j ≤ L.length ∧ i = .int .i64 (j : Nat) ∧ Below wo.heap.size wo wx) (fun i _ => L.length - (intOf i).toNat)
            case atStart => exact ⟨0, Nat.zero_le _, rfl, Below.refl _ _⟩
            case round =>
              obtain ⟨j, hj, rfl, hbx⟩ := hrel
              have HBX := Lib.hid hbx
              have HBXW := Lib.hid (bthen HBW.out hbx HBW.out.size)
              have HMx := Lib.hid (HMr.out.up hbx)
              clear hbx
              by_cases hlt2 : j < L.length
              · obtain ⟨d, hd⟩ := at_lt (l := L) (k := j) hlt2
                obtain ⟨bL, oL, hA, hbL, hcl⟩ := HRr.out.2 (by omega)
                subst hA
                have hcd := (HRr.out.cells_ hlt2 hd HBX.out).2
                have c0 := hcd 0 _ rfl
                rw [Nat.add_zero] at c0
                have HLS : Hid ((M.any fun y => decide (y.con = d.con)) = true) := Lib.hid (by
                  have hm := List.mem_of_getElem? hd
                  rw [HLA.out] at hm
                  obtain ⟨i, y, hy, hrn, rfl⟩ := mem_all.1 hm
                  rw [HMA.out]
                  exact listed_is hy (rea_lower hrn hl2))
                obtain ⟨con, node, kind, gr, fr, to_, serv⟩ := d
                simp only at c0 HLS
                have x1 : (0 : Int) ≤ (j : Int) := by omega
                have x2 : (j : Int) < (L.length : Int) := by omega
                clear hcd hcl hd
                go_wp2_with (first
                  | (go_at_call 20; ((with_reducible refine (listed_val HLS.out HMx.out HMM.out).mono ?_); rintro e w7 ⟨rfl, hb7⟩; have HB7 := Lib.hid (bthen HBX.out hb7 HBX.out.size); clear hb7)))
                go_roundw
                case rel => exact ⟨j + 1, by omega, by go_num, HB7.out⟩
                case measure => simp [intOf]; omega
              · have e : j = L.length := by omega
                subst e
                go_wp2_with fail
                refine (awake_any _).mono ?_
                rintro e w9 ⟨rfl, hb9⟩
                have HB9 := Lib.hid (bthen HBXW.out hb9 HBXW.out.size)
                clear hb9
                go_wp2
                go_ret
                exact ⟨rfl, HB9.out⟩
          · have hgq : (G != 0) = true := by simpa using hg0
            clear hg0
            go_wp2_with fail
            refine (awake_any _).mono ?_
            rintro e w9 ⟨rfl, hb9⟩
            have HB9 := Lib.hid (bthen HBW.out hb9 HBW.out.size)
            clear hb9
            go_wp2
            go_ret
            exact ⟨rfl, HB9.out⟩
    · have hq : (E != 0) = true := by simpa using h0
      clear h0
      go_wp2_with fail
      refine (awake_any _).mono ?_
      rintro e w9 ⟨rfl, hb9⟩
      have HB := Lib.hid (bthen HB3.out hb9 HB3.out.size)
      clear hb9
      go_wp2
      go_ret
      exact ⟨rfl, HB.out⟩
  · go_wp2_with fail
    refine (awake_any _).mono ?_
    rintro e w9 ⟨rfl, hb9⟩
    have HB := Lib.hid (bthen HB1.out hb9 HB1.out.size)
    clear hb9
    go_wp2
    go_ret
    exact ⟨rfl, HB.out⟩

theorem own : ownKnob Try.prog.godebug = none := by kernel_rfl
theorem laidOut : laidOutB Try.prog = true := by kernel_rfl
set_option maxRecDepth 100000 in
theorem lifted (os : Os) (started : os.Started) (H : Type) (enc : TypeId × Value → H) :
    ReturnsInHanded {} Try.checked os 8 .any (Rows.demandLowerSpec.pre6 enc Try.prog Try.f8 Rows.demandLowerRow.domain false) (Rows.demandLowerSpec.post enc Try.prog Try.f8 false true false false) := by
  refine returnsInHanded_of_change (C := Try.checked) own started (by kernel_rfl) Try.func8
    (ChangeSpec.witness6 (enc := enc) (C := Try.checked) false ⟨#[], #[.agg #[.slice none 0 0, .slice none 0 0, .slice none 0 0, .int .i64 0, .int .i64 0, .int .i64 0, .int .i64 0, .int .i64 0], .int .i64 0, .int .i64 0], []⟩ 8 (by kernel_rfl) (by kernel_rfl) (by kernel_rfl) (by kernel_rfl)) ?_
  intro W base args ds gs before hval0 hW hcnd _
  have hval : ∀ (j : Nat) t v, Try.f8.params[j]? = some t → args[j]? = some v → Value.okWide Try.prog W .any base t v := hval0
  have hW' := hW
  obtain ⟨p, q, hA0, hV, rfl, hfz, hnd⟩ := hW
  have hA : DataW.TrodAll enc Try.prog W 0 (fun _ => true) true Try.f8.params.toList args.toList ds p := hA0
  rw [Try.params8] at hA hval
  obtain ⟨v0, vs0, d0, ds0, p0, q0, hargs, rfl, rfl, h0, r0⟩ := trodAll_cons hA
  obtain ⟨v1, vs1, d1, ds1, p1, q1, rfl, rfl, rfl, h1, r1⟩ := trodAll_cons r0
  obtain ⟨v2, vs2, d2, ds2, p2, q2, rfl, rfl, rfl, h2, r2⟩ := trodAll_cons r1
  obtain ⟨rfl, rfl, rfl⟩ := trodAll_nil r2
  obtain rfl : args = #[v0, v1, v2] := by cases args; simp_all
  obtain ⟨rfl, rfl⟩ := trodVars_none hV
  have k0 := h0
  have lt0 : ∀ x ∈ p0, x.block < W.heap.size := by obtain ⟨m, hm⟩ := k0; exact DataW.trod_lt m _ _ _ hm
  have O0 := open_case W (hval 0 28 v0 rfl rfl) h0
  have k1 := h1
  have lt1 : ∀ x ∈ p1, x.block < W.heap.size := by obtain ⟨m, hm⟩ := k1; exact DataW.trod_lt m _ _ _ hm
  have O1 := open_int W (hval 1 3 v1 rfl rfl) h1
  have k2 := h2
  have lt2 : ∀ x ∈ p2, x.block < W.heap.size := by obtain ⟨m, hm⟩ := k2; exact DataW.trod_lt m _ _ _ hm
  have O2 := open_int W (hval 2 3 v2 rfl rfl) h2
  clear hA0 hval0
  refine (walk W v0 O0 v1 O1 v2 O2).mono fun e W' ⟨he, bel⟩ => ?_
  subst he
  exact ⟨_, rfl, _, _, _, [], _, [], hW', trodAll_mk1 (shut_bool Try.underlying4 _), (trodAll_cons_mk (Below.trod laidOut (by kernel_rfl) (of_decide_eq_true (by kernel_rfl)) k0 bel lt0) (trodAll_cons_mk (Below.trod laidOut (by kernel_rfl) (of_decide_eq_true (by kernel_rfl)) k1 bel lt1) (trodAll_cons_mk (Below.trod laidOut (by kernel_rfl) (of_decide_eq_true (by kernel_rfl)) k2 bel lt2) trodAll_mk0))), rfl, bel.frame _, fun h => by cases h⟩
theorem over : Rows.demandLowerRow.holds Try.pinned (OpenSpec.ofChange Rows.demandLowerSpec) :=
  OpenClaim.holds_of_wide 8 Try.f8 rfl rfl rfl rfl rfl rfl rfl ⟨rfl, rfl, rfl, rfl, rfl⟩ rfl rfl rfl rfl rfl (by kernel_rfl) Try.func8 (by kernel_rfl)
    (of_decide_eq_true (by kernel_rfl)) (by unfold Func.isWrapper; first | (rw [if_pos (by decide +kernel)]; kernel_rfl) | (rw [if_neg (by decide +kernel)]; exact ⟨rfl, rfl⟩))
    (fun os started H enc _ => lifted os started H enc)
theorem proved : Rows.DemandLowerSaid := over
#print axioms proved

end Go.Proofs.Ytpeidgfaejnhiaa.demandLower
