/- ContainerPlaces: in a valid register every container is at exactly one node (at most 300 containers and 100 nodes); the fixed examples hold. No condition. -/
import Derived.Test.YtabldmoifkgchaaAwake13
import Derived.Test.YtabldmoifkgchaaOpenC
import Derived.Test.YtabldmoifkgchaaConM
import Derived.Deep.QuietTactic
import Derived.BigQuiet
namespace Go.Proofs.Ytabldmoifkgchaa.containerPlaces
open Go.ChangeShapes Go.WideShapes Go.ChangeAt Go.RowKit
set_option linter.unusedVariables false

set_option maxRecDepth 100000 in
set_option maxHeartbeats 1600000 in
theorem walk (w : World) (v0 : Value) (hv0 : IsCons w v0) (v1 : Value) (hv1 : IsInt .i64 v1) (v2 : Value) (hv2 : IsInt .u8 v2) :
    Calls Try.prog 10 #[v0, v1, v2] w fun e w' => e = .returned (.bool true) ∧ Below w.heap.size w w' := by
  obtain ⟨A, n, c, L, rfl, hr, hn, hnc, hok⟩ := hv0
  obtain ⟨m, rfl, _⟩ := hv1
  obtain ⟨nd, rfl, hw2⟩ := hv2
  have hnd : 0 ≤ nd ∧ nd ≤ 255 := by
    have h0 : IntKind.u8.min = 0 := rfl
    have h1 : IntKind.u8.max = 255 := rfl
    simpa [Lit.wf, h0, h1] using hw2
  obtain ⟨nd0, nd1⟩ := hnd
  clear hw2
  obtain ⟨q, hq⟩ : ∃ q : Int, nd % 100 = q := ⟨_, rfl⟩
  have q0 : 0 ≤ q := by omega
  have q1 : q < 100 := by omega
  have hsz : ∀ x ∈ L, x.id.size ≤ maxLen := fun x hx => (hok x hx).1
  have HR := Lib.hid hr
  have HSZ := Lib.hid hsz
  have HN := Lib.hid hn
  have HL : Hid (L.length = n) := Lib.hid hr.1
  clear hr hsz hok hn hnc
  cases hb : largeB L
  · have HBL := Lib.hid hb
    have h300 : n ≤ 300 := by rw [← HL.out]; exact (largeB_false hb).1
    clear hb
    by_cases hE : chkL L m q = 0
    · have HE := Lib.hid hE
      clear hE
      go_enter Try.func10, Try.ntmps10
      go_wp2_with fail
      refine (large_any HR.out HN.out HSZ.out).mono ?_
      rw [HBL.out]
      rintro e w1 ⟨rfl, hb1⟩
      have HB1 := Lib.hid hb1
      have HR1 := Lib.hid (HR.out.up hb1)
      clear hb1
      go_wp2_with fail
      refine (check_any HR1.out HN.out HSZ.out m q).mono ?_
      rw [HE.out]
      rintro e w2 ⟨rfl, hb2⟩
      have HB2 := Lib.hid (HB1.out.trans (hb2.mono HB1.out.size))
      clear hb2
      go_wp2_with fail
      have hmk := run_make_ints n (by omega)
      go_wp2_with fail
      rw [hmk]
      go_wp2_with fail
      have HC0 := Lib.hid (Cnt.made (w := w2) (n := n) (L := L) HL.out (fun x hx => (con_node ((chk_ok HE.out).2.2 x hx)).1))
      have hg2 : w.heap.size ≤ w2.heap.size := HB2.out.size
      obtain ⟨g, hg⟩ : ∃ g, w2.heap.size = g := ⟨_, rfl⟩
      have HBm := Lib.hid (HB2.out.alloc HB2.out.size (.cells (rowI (List.replicate n 0)) 3))
      obtain ⟨wm, hwm⟩ : ∃ wm, w2.alloc (.cells (rowI (List.replicate n 0)) 3) = wm := ⟨_, rfl⟩
      rw [hwm] at HC0 HBm ⊢
      rw [hg] at HC0 hg2 ⊢
      clear hwm hg hmk
      go_loopw [9] (fun v wr => ∃ t : Int, 0 ≤ t ∧ t ≤ q ∧ v = .int .i64 t ∧ Cnt wr g n L t [] ∧ Below w.heap.size w wr) (fun v _ => (q - intOf v).toNat)
      case atStart => exact ⟨0, by omega, q0, rfl, HC0.out, HBm.out⟩
      case round =>
        obtain ⟨t, t0, t1, rfl, hcnt, hbel⟩ := hrel
        have HC := Lib.hid hcnt
        have HB := Lib.hid hbel
        have HRr := Lib.hid ((HR.out.below hbel).mono (fun b hb => Nat.lt_of_lt_of_le hb hbel.size))
        clear hcnt hbel
        by_cases hlt : t < q
        · have hn' : n ≤ 1099511627776 := by omega
          obtain ⟨wq, rfl⟩ : ∃ wq : World, wq = wr := ⟨_, rfl⟩
          have hgr : g < wq.heap.size := HC.out.lt
          go_wp2_with fail
          refine (at_own (c := c) HRr.out hn' t).mono ?_
          rintro e w3 ⟨A3, c3, rfl, hr3, hb3⟩
          have HB3 := Lib.hid (HB.out.trans (hb3.mono HB.out.size))
          have HC3 := Lib.hid (HC.out.grow hb3)
          obtain ⟨l, hl⟩ : ∃ l, atL (fun x : Con => decide (x.node = t)) L = l := ⟨_, rfl⟩
          have hll := atL_len (fun x : Con => decide (x.node = t)) L
          rw [hl] at hr3 hll ⊢
          rw [HL.out] at hll
          have hls : wq.heap.size ≤ w3.heap.size := hb3.size
          have HI := Lib.hid hr3
          have HLL := Lib.hid hl
          clear hb3 hr3 hl
          go_wp2_with fail
          go_loopw [39] (fun v wx => ∃ j : Nat, j ≤ l.length ∧ v = .int .i64 (j : Nat) ∧ Cnt wx g n L t (l.take j) ∧ Below w.heap.size w wx ∧ RdS wx (fun b => wq.heap.size ≤ b ∧ b < w3.heap.size) A3 l.length (ints l)) (fun v _ => l.length - (intOf v).toNat)
          case atStart => exact ⟨0, Nat.zero_le _, rfl, HC3.out, HB3.out, HI.out⟩
          case round =>
            obtain ⟨j, hj, rfl, hcnt, hbel, hrd⟩ := hrel
            have HCx := Lib.hid hcnt
            have HBx := Lib.hid hbel
            have HRx := Lib.hid hrd
            by_cases hlt2 : j < l.length
            · obtain ⟨i, hi⟩ := at_lt (l := l) (k := j) hlt2
              obtain ⟨b', o', u, rfl, hb', hu, hcell⟩ := hrd.at_ hlt2
              have hu2 : u = .int .i64 (i : Int) := by
                unfold ints at hu
                rw [List.getElem?_map, hi] at hu
                exact (Option.some.inj hu).symm
              subst hu2
              have hmem : i ∈ atL (fun x : Con => decide (x.node = t)) L := by rw [HLL.out]; exact List.mem_of_getElem? hi
              obtain ⟨x, hx, hxt⟩ := atL_mem.1 hmem
              have hxt' : x.node = t := by simpa using hxt
              have hin : i < n := by rw [← HL.out]; exact (List.getElem?_eq_some_iff.1 hx).1
              obtain ⟨b, o, rfl, hb, hc⟩ := HR.out.2 (by omega)
              have c4 := (HR.out.cells_ hin hx HBx.out).2 4 _ rfl
              rw [hxt'] at c4
              have hnot : ¬ (x.node < t ∨ i ∈ l.take j) := by
                rintro (h | h)
                · omega
                · exact nodup_at (by rw [← HLL.out]; exact atL_nodup _ _) hi h
              obtain ⟨s0, s1⟩ := HCx.out.cell hx
              rw [if_neg hnot] at s0
              have HTK : Hid (l.take (j + 1) = l.take j ++ [i]) := Lib.hid (by rw [List.take_add_one, hi]; rfl)
              have HRa := Lib.hid (HCx.out.raise hx)
              clear hcnt hbel hrd hu hi hmem hx hxt hxt' hc hnot
              go_wp2_with fail
              go_roundw
              case rel => exact ⟨j + 1, by omega, by go_num, by rw [HTK.out]; exact HRa.out, HBx.out.setCell (p := ⟨g, i, none⟩) hg2 _, HRx.out.keep fun b hb => Below.heap_setCell wr ⟨g, i, none⟩ _ b (by have := hb.1; simp only; omega)⟩
              case measure => simp [intOf]; omega
            · have e : j = l.length := by omega
              have HCn : Hid (Cnt wr g n L (t + 1) []) := Lib.hid (by
                have h1 := hcnt
                rw [e, List.take_length, ← HLL.out] at h1
                exact h1.next)
              clear hcnt hbel hrd e
              go_wp2_with fail
              go_roundw
              case rel => exact ⟨t + 1, by omega, by omega, rfl, HCn.out, HBx.out⟩
              case measure => simp [intOf]; omega
        · have e : t = q := by omega
          subst e
          clear hlt
          go_wp2_with fail
          go_loop [69] (fun v => ∃ k : Nat, k ≤ n ∧ v = .int .i64 (k : Nat)) (fun v => n - (intOf v).toNat)
          case atStart => exact ⟨0, Nat.zero_le _, rfl⟩
          case round =>
            obtain ⟨k, hk, rfl⟩ := hrel
            by_cases hlt : k < n
            · obtain ⟨x, hx⟩ := at_lt (l := L) (k := k) (by rw [HL.out]; exact hlt)
              have hxn := (con_node ((chk_ok HE.out).2.2 x (List.mem_of_getElem? hx))).2
              have s0 := (HC.out.cell hx).1
              rw [if_pos (.inl hxn)] at s0
              clear hx hxn
              go_wp2_with fail
              go_round
              case rel => exact ⟨k + 1, by omega, by go_num⟩
              case measure => simp [intOf]; omega
            · have e : k = n := by omega
              subst e
              go_wp2_with fail
              refine (awake_any _).mono ?_
              rintro e w9 ⟨rfl, hb9⟩
              have HB9 := Lib.hid (HB.out.trans (hb9.mono HB.out.size))
              clear hb9
              go_wp2
              go_ret
              exact ⟨rfl, HB9.out⟩
    · have hne : (chkL L m q == 0) = false := by simpa using hE
      have hne2 : (chkL L m q != 0) = true := by simpa using hE
      clear hE
      go_enter Try.func10, Try.ntmps10
      go_wp2_with fail
      refine (large_any HR.out HN.out HSZ.out).mono ?_
      rw [HBL.out]
      rintro e w1 ⟨rfl, hb1⟩
      have HB1 := Lib.hid hb1
      have HR1 := Lib.hid (HR.out.up hb1)
      clear hb1
      go_wp2_with fail
      refine (check_any HR1.out HN.out HSZ.out m q).mono ?_
      rintro e w2 ⟨rfl, hb2⟩
      have HB2 := Lib.hid (HB1.out.trans (hb2.mono HB1.out.size))
      clear hb2
      go_wp2_with fail
      refine (awake_any _).mono ?_
      rintro e w9 ⟨rfl, hb9⟩
      have HB := Lib.hid (HB2.out.trans (hb9.mono HB2.out.size))
      clear hb9
      go_wp2
      go_ret
      exact ⟨rfl, HB.out⟩
  · have HBL := Lib.hid hb
    clear hb
    go_enter Try.func10, Try.ntmps10
    go_wp2_with fail
    refine (large_any HR.out HN.out HSZ.out).mono ?_
    rw [HBL.out]
    rintro e w1 ⟨rfl, hb1⟩
    have HB1 := Lib.hid hb1
    clear hb1
    go_wp2_with fail
    refine (awake_any _).mono ?_
    rintro e w9 ⟨rfl, hb9⟩
    have HB := Lib.hid (HB1.out.trans (hb9.mono HB1.out.size))
    clear hb9
    go_wp2
    go_ret
    exact ⟨rfl, HB.out⟩

theorem own : ownKnob Try.prog.godebug = none := by kernel_rfl
theorem laidOut : laidOutB Try.prog = true := by kernel_rfl
set_option maxRecDepth 100000 in
theorem lifted (os : Os) (started : os.Started) (H : Type) (enc : TypeId × Value → H) :
    ReturnsInHanded {} Try.checked os 10 .any (Rows.containerPlacesSpec.pre6 enc Try.prog Try.f10 Rows.containerPlacesRow.domain false) (Rows.containerPlacesSpec.post enc Try.prog Try.f10 false true false false) := by
  refine returnsInHanded_of_change (C := Try.checked) own started (by kernel_rfl) Try.func10
    (ChangeSpec.witness6 (enc := enc) (C := Try.checked) false ⟨#[], #[.slice none 0 0, .int .i64 0, .int .u8 0], []⟩ 8 (by kernel_rfl) (by kernel_rfl) (by kernel_rfl) (by kernel_rfl)) ?_
  intro W base args ds gs before hval0 hW hcnd _
  have hval : ∀ (j : Nat) t v, Try.f10.params[j]? = some t → args[j]? = some v → Value.okWide Try.prog W .any base t v := hval0
  have hW' := hW
  obtain ⟨p, q, hA0, hV, rfl, hfz, hnd⟩ := hW
  have hA : DataW.TrodAll enc Try.prog W 0 (fun _ => true) true Try.f10.params.toList args.toList ds p := hA0
  rw [Try.params10] at hA hval
  obtain ⟨v0, vs0, d0, ds0, p0, q0, hargs, rfl, rfl, h0, r0⟩ := trodAll_cons hA
  obtain ⟨v1, vs1, d1, ds1, p1, q1, rfl, rfl, rfl, h1, r1⟩ := trodAll_cons r0
  obtain ⟨v2, vs2, d2, ds2, p2, q2, rfl, rfl, rfl, h2, r2⟩ := trodAll_cons r1
  obtain ⟨rfl, rfl, rfl⟩ := trodAll_nil r2
  obtain rfl : args = #[v0, v1, v2] := by cases args; simp_all
  obtain ⟨rfl, rfl⟩ := trodVars_none hV
  have k0 := h0
  have lt0 : ∀ x ∈ p0, x.block < W.heap.size := by obtain ⟨m, hm⟩ := k0; exact DataW.trod_lt m _ _ _ hm
  have O0 := open_conts W (hval 0 22 v0 rfl rfl) h0
  have k1 := h1
  have lt1 : ∀ x ∈ p1, x.block < W.heap.size := by obtain ⟨m, hm⟩ := k1; exact DataW.trod_lt m _ _ _ hm
  have O1 := open_int W (hval 1 3 v1 rfl rfl) h1
  have k2 := h2
  have lt2 : ∀ x ∈ p2, x.block < W.heap.size := by obtain ⟨m, hm⟩ := k2; exact DataW.trod_lt m _ _ _ hm
  have O2 := open_u8 W (hval 2 5 v2 rfl rfl) h2
  clear hA0 hval0
  refine (walk W v0 O0 v1 O1 v2 O2).mono fun e W' ⟨he, bel⟩ => ?_
  subst he
  exact ⟨_, rfl, _, _, _, [], _, [], hW', trodAll_mk1 (shut_bool Try.underlying4 _), (trodAll_cons_mk (Below.trod laidOut (by kernel_rfl) (of_decide_eq_true (by kernel_rfl)) k0 bel lt0) (trodAll_cons_mk (Below.trod laidOut (by kernel_rfl) (of_decide_eq_true (by kernel_rfl)) k1 bel lt1) (trodAll_cons_mk (Below.trod laidOut (by kernel_rfl) (of_decide_eq_true (by kernel_rfl)) k2 bel lt2) trodAll_mk0))), rfl, bel.frame _, fun h => by cases h⟩
theorem over : Rows.containerPlacesRow.holds Try.pinned (OpenSpec.ofChange Rows.containerPlacesSpec) :=
  OpenClaim.holds_of_wide 10 Try.f10 rfl rfl rfl rfl rfl rfl rfl ⟨rfl, rfl, rfl, rfl, rfl⟩ rfl rfl rfl rfl rfl (by kernel_rfl) Try.func10 (by kernel_rfl)
    (of_decide_eq_true (by kernel_rfl)) (by unfold Func.isWrapper; first | (rw [if_pos (by decide +kernel)]; kernel_rfl) | (rw [if_neg (by decide +kernel)]; exact ⟨rfl, rfl⟩))
    (fun os started H enc _ => lifted os started H enc)
theorem proved : Rows.ContainerPlacesSaid := over
#print axioms proved

end Go.Proofs.Ytabldmoifkgchaa.containerPlaces
