/- VehicleAlone: without the reference: some vehicles are valid exactly if each is valid alone and no two have the same ID; so their opposite order is valid, too. No condition. -/
import Derived.Test.YthalbjnjlgnndaaVehO
import Derived.Test.YthalbjnjlgnndaaAwake20
import Derived.Test.YthalbjnjlgnndaaOpenV
import Derived.Deep.RegionWith
import Derived.Deep.DeepCutAuto
import Derived.BigQuiet
import Derived.Laws.AppendOwnNone
namespace Go.Proofs.Ythalbjnjlgnndaa.vehicleAlone
open Go.ChangeShapes Go.WideShapes Go.ChangeAt Go.RowKit
set_option linter.unusedVariables false

/-- the cells of the first k vehicles in the opposite order -/
def revs (L : List Veh) (k : Nat) : List Value := ((L.take k).reverse.map Veh.cs).flatten
theorem revs_succ {L : List Veh} {k : Nat} {x : Veh} (hx : L[k]? = some x) : revs L (k + 1) = Veh.cs x ++ revs L k := by
  unfold revs
  rw [List.take_add_one, hx]
  simp
theorem revs_len {L : List Veh} {k : Nat} (h : k ≤ L.length) : (revs L k).length = k * 6 := by
  induction k with
  | zero => simp [revs]
  | succ k ih =>
    obtain ⟨x, hx⟩ := at_lt (l := L) (k := k) (by omega)
    rw [revs_succ hx, List.length_append, ih (by omega)]
    simp [Veh.cs]
    omega
theorem revs_one (L : List Veh) (k : Nat) : ∀ u ∈ revs L k, u.oneCell' = true := by
  intro u hu
  unfold revs at hu
  obtain ⟨l, hl, hu⟩ := List.mem_flatten.1 hu
  obtain ⟨x, _, rfl⟩ := List.mem_map.1 hl
  simp [Veh.cs] at hu
  rcases hu with rfl | rfl | rfl | rfl | rfl | rfl <;> rfl
def BackIs (w : World) (v : Value) (k : Nat) (xs : List Value) : Prop :=
  (k = 0 ∧ v = .slice none 0 0) ∨ ∃ g c, v = .slice (some ⟨g, 0, none⟩) k c ∧ g < w.heap.size ∧ 0 < k ∧ ∀ j u, xs[j]? = some u → w.cell? ⟨g, j, none⟩ = some u
theorem BackIs.grow {w w' : World} {v : Value} {k : Nat} {xs : List Value} (h : BackIs w v k xs) (hb : Below w.heap.size w w') : BackIs w' v k xs := by
  rcases h with h | ⟨g, c, h1, h2, h3, h4⟩
  · exact .inl h
  · exact .inr ⟨g, c, h1, Nat.lt_of_lt_of_le h2 hb.size, h3, fun j u hu => (hb.cell (p := ⟨g, j, none⟩) h2).trans (h4 j u hu)⟩
theorem BackIs.rd {w : World} {v : Value} {k : Nat} {L : List Veh} (h : BackIs w v k (revs L k)) (hk : k ≤ L.length) :
    ∃ A c, v = .slice A k c ∧ RdT w (· < w.heap.size) 6 Veh.cs A k (L.take k).reverse := by
  have hl : (L.take k).reverse.length = k := by simp; omega
  rcases h with ⟨rfl, rfl⟩ | ⟨g, c, rfl, h2, h3, h4⟩
  · exact ⟨none, 0, rfl, hl, fun h => absurd h (by omega)⟩
  · exact ⟨_, c, rfl, hl, fun _ => ⟨g, 0, rfl, h2, fun i x hx j u hu => by
      rw [Nat.zero_add]
      exact h4 _ u (flat_at (s := 6) (fun y => rfl) _ i j x u hx hu)⟩⟩
theorem lit_own (w : World) (x : Veh) {base : Nat} (hb : base ≤ w.heap.size) : (w.alloc (.cells (Veh.vs x) 32)).ownsRow base 32 6 (.slice (some ⟨w.heap.size, 0, none⟩) 1 1) 1 (Veh.cs x) :=
  ⟨rfl, .inr ⟨w.heap.size, 1, Veh.vs x, rfl, hb, heap_alloc_new w _, Nat.le_refl _, by unfold maxLen; omega, rfl, rfl⟩⟩
theorem back_next {w : World} {base : Nat} {v : Value} {k : Nat} {L : List Veh} {x : Veh} (h : w.ownsRow base 32 6 v (1 + k) (Veh.cs x ++ revs L k)) (hx : L[k]? = some x) : BackIs w v (k + 1) (revs L (k + 1)) := by
  obtain ⟨g, c, rfl⟩ := Joins.ownsRow_form h (by omega)
  refine .inr ⟨g, c, by rw [Nat.add_comm], (h.lt g rfl).2, by omega, fun j u hu => ?_⟩
  rw [revs_succ hx] at hu
  have h2 := h.cells (g := g) rfl j u hu
  have e : (⟨g, 0, none⟩ : Addr).add j = ⟨g, j, none⟩ := by unfold Addr.add; split <;> simp_all
  rwa [e] at h2
theorem infoV : (Try.prog.info? 32).map (fun i => (i.zero, i.size, i.bytes)) = some (some (.agg #[.string ⟨#[]⟩, .int .i64 0, .int .i64 0, .int .i64 0, .int .i64 0, .int .i64 0]), 6, 56) := by kernel_rfl
/-- one vehicle out of a slice -/
theorem RdT.one {w : World} {b o n k : Nat} {L : List Veh} {x : Veh} {B : Nat} (h : RdT w (· < B) 6 Veh.cs (some ⟨b, o, none⟩) n L) (hk : k < n) (hx : L[k]? = some x) : RdT w (· < B) 6 Veh.cs (some ⟨b, o + k * 6, none⟩) 1 [x] := by
  obtain ⟨h1, h2⟩ := RdT.cells_ h hk hx (Below.refl _ _)
  refine ⟨rfl, fun _ => ⟨b, o + k * 6, rfl, h1, fun i y hy j u hu => ?_⟩⟩
  cases i with
  | zero => simp at hy; subst hy; rw [Nat.zero_mul, Nat.zero_add]; exact h2 j u hu
  | succ i => simp at hy

set_option maxRecDepth 100000 in
set_option maxHeartbeats 3200000 in
theorem walk (w : World) (v0 : Value) (hv0 : IsVehs w v0) (v1 : Value) (hv1 : IsInt .i64 v1) (v2 : Value) (hv2 : IsInt .i64 v2) :
    Calls Try.prog 8 #[v0, v1, v2] w fun e w' => e = .returned (.bool true) ∧ Below w.heap.size w w' := by
  obtain ⟨A, n, c, L, rfl, hr, hn, hnc, hok⟩ := hv0
  obtain ⟨m, rfl, _⟩ := hv1
  obtain ⟨q, rfl, _⟩ := hv2
  have hsz : ∀ x ∈ L, x.id.size ≤ maxLen := fun x hx => (hok x hx).1
  have HR := Lib.hid hr
  have HSZ := Lib.hid hsz
  have HN := Lib.hid hn
  have HLEN : Hid (L.length = n) := Lib.hid hr.1
  clear hr hsz hok hn
  cases hb : smallB L
  · have HBL := Lib.hid hb
    clear hb
    go_enter Try.func8, Try.ntmps8
    go_wp2_with fail
    refine (small_any HR.out HN.out HSZ.out).mono ?_
    rw [HBL.out]
    rintro e w1 ⟨rfl, hb1⟩
    have HB1 := Lib.hid hb1
    clear hb1
    go_wp2_with fail
    refine (awake_any _).mono ?_
    rintro e w9 ⟨rfl, hb9⟩
    have HB := Lib.hid (HB1.out.trans (hb9.mono HB1.out.size))
    clear hb9
    go_wp2
    go_ret
    exact ⟨rfl, HB.out⟩
  · have HBL := Lib.hid hb
    clear hb
    by_cases hn0 : n = 0 ∨ 16 < n
    · go_enter Try.func8, Try.ntmps8
      go_wp2_with fail
      refine (small_any HR.out HN.out HSZ.out).mono ?_
      rw [HBL.out]
      rintro e w1 ⟨rfl, hb1⟩
      have HB1 := Lib.hid hb1
      clear hb1
      rcases hn0 with rfl | h16
      · go_wp2_with fail
        refine (awake_any _).mono ?_
        rintro e w9 ⟨rfl, hb9⟩
        have HB := Lib.hid (HB1.out.trans (hb9.mono HB1.out.size))
        clear hb9
        go_wp2
        go_ret
        exact ⟨rfl, HB.out⟩
      · have hz : ((n : Int) == 0) = false := beq_eq_false_iff_ne.2 (by omega)
        go_wp2_with fail
        refine (awake_any _).mono ?_
        rintro e w9 ⟨rfl, hb9⟩
        have HB := Lib.hid (HB1.out.trans (hb9.mono HB1.out.size))
        clear hb9
        go_wp2
        go_ret
        exact ⟨rfl, HB.out⟩
    have hpos : 0 < n := by omega
    have h16 : n ≤ 16 := by omega
    clear hn0
    have hz : ((n : Int) == 0) = false := beq_eq_false_iff_ne.2 (by omega)
    obtain ⟨b, o, rfl, hbw, _⟩ := HR.out.2 hpos
    go_enter Try.func8, Try.ntmps8
    go_wp2_with fail
    refine (small_any HR.out HN.out HSZ.out).mono ?_
    rw [HBL.out]
    rintro e w1 ⟨rfl, hb1⟩
    have HB1 := Lib.hid hb1
    have HR1 := Lib.hid (HR.out.up hb1)
    have hbw1 : b < w1.heap.size := Nat.lt_of_lt_of_le hbw hb1.size
    clear hb1 HBL hbw
    go_wp2_with fail
    go_loopw [7, 8, 9] (fun t7 t8 t9 wr => ∃ k : Nat, k ≤ n ∧ t7 = .bool (wantB L m q k) ∧ t9 = .int .i64 k ∧ BackIs wr t8 k (revs L k) ∧ Below w1.heap.size w1 wr) (fun _ _ t9 _ => n - (intOf t9).toNat)
    case atStart => exact ⟨0, Nat.zero_le _, by simp [wantB], rfl, .inl ⟨rfl, rfl⟩, Below.refl _ _⟩
    case round =>
      obtain ⟨k, hk, rfl, rfl, hbk, hbel⟩ := hrel
      have HBK := Lib.hid hbk
      have HBEL := Lib.hid hbel
      clear hbk hbel
      by_cases hlt : k < n
      · obtain ⟨x, hx⟩ := at_lt (l := L) (k := k) (by rw [HLEN.out]; exact hlt)
        have HX := Lib.hid hx
        clear hx
        have hk1 : (k : Int) + 1 ≤ (c : Int) := by omega
        have hk2 : (k : Int) ≤ (k : Int) + 1 := by omega
        go_upto_region 8 with fail
        go_cut [7] (fun s7 wx => s7 = .bool (wantB L m q k && decide (chkV [x] m q = 0)) ∧ Below wr.heap.size wr wx)
        case first =>
          cases hw : wantB L m q k
          · go_wp2_with fail
            go_meet
            exact ⟨by rw [hw]; rfl, Below.refl _ _⟩
          · go_wp2_with fail
            have hone := (RdT.one (HR1.out.below HBEL.out) hlt HX.out).mono (S' := (· < wr.heap.size)) fun b' hb' => Nat.lt_of_lt_of_le hb' HBEL.out.size
            refine (check_any (c := c - k) hone (by unfold maxLen; omega) (fun y hy => HSZ.out y (by rw [List.mem_singleton.1 hy]; exact List.mem_of_getElem? HX.out)) m q).mono ?_
            clear hone
            rintro e w2 ⟨rfl, hb2⟩
            have HB2 := Lib.hid hb2
            clear hb2
            go_wp2_with fail
            go_meet
            refine ⟨?_, HB2.out⟩
            rw [hw, Bool.true_and]
            by_cases h0 : chkV [x] m q = 0
            · rw [h0]; rfl
            · rw [decide_eq_false h0, beq_eq_false_iff_ne.2 h0]
        case rest =>
          obtain ⟨rfl, hbx⟩ := hcut
          rename_i wc
          have HBX := Lib.hid (HBEL.out.trans (hbx.mono HBEL.out.size))
          have HBKX := Lib.hid (HBK.out.grow hbx)
          clear hbx HBK HBEL
          obtain ⟨W0, hW0⟩ : ∃ W0, (wantB L m q k && decide (chkV [x] m q = 0)) = W0 := ⟨_, rfl⟩
          rw [hW0]
          have HW1 : Hid ((W0 && apartB L x k) = wantB L m q (k + 1)) := Lib.hid (by rw [want_succ HX.out, hW0])
          clear hW0
          go_wp2_with fail
          go_loopw [7, 10] (fun t7 t10 wq => ∃ t : Nat, t ≤ k ∧ t7 = .bool (W0 && apartB L x t) ∧ t10 = .int .i64 (t : Nat) ∧ Below wc.heap.size wc wq) (fun _ t10 _ => k - (intOf t10).toNat)
          case atStart => exact ⟨0, Nat.zero_le _, by simp [apartB, memB], rfl, Below.refl _ _⟩
          case round =>
            obtain ⟨t, ht, rfl, rfl, hb2⟩ := hrel
            have HB2 := Lib.hid hb2
            have HBQ := Lib.hid (HBX.out.trans (hb2.mono HBX.out.size))
            clear hb2
            have qx := (RdT.cells_ HR1.out hlt HX.out HBQ.out).2
            have x0 := qx 0 _ rfl
            by_cases hlt2 : t < k
            · obtain ⟨y, hy⟩ := at_lt (l := L) (k := t) (by rw [HLEN.out]; omega)
              have HY := Lib.hid hy
              have y0 := (RdT.cells_ HR1.out (by omega : t < n) hy HBQ.out).2 0 _ rfl
              simp only [Nat.add_zero] at x0 y0
              have HAS := Lib.hid (apart_succ (x := x) hy)
              have i1 : (0 : Int) ≤ (t : Int) := by omega
              have i2 : (t : Int) < (n : Int) := by omega
              have i3 : (0 : Int) ≤ (k : Int) := by omega
              have i4 : (k : Int) < (n : Int) := by omega
              clear hy qx
              cases hwv : (W0 && apartB L x t)
              · have HWV := Lib.hid hwv
                clear hwv
                go_wp2
                go_quiet (fail)
                go_wp2
                go_roundw
                case rel => exact ⟨t + 1, by omega, by rw [HAS.out, ← Bool.and_assoc, HWV.out]; rfl, by go_num, belowN HB2.out _⟩
                case measure => simp [intOf]; omega
              · have HWV := Lib.hid hwv
                clear hwv
                go_wp2
                go_quiet (fail)
                go_wp2
                go_roundw
                case rel => exact ⟨t + 1, by omega, by rw [HAS.out, ← Bool.and_assoc, HWV.out]; simp [bytes_beq], by go_num, belowN HB2.out _⟩
                case measure => simp [intOf]; omega
            · have e : k = t := by omega
              subst e
              rw [HW1.out]
              have HBKR := Lib.hid (HBKX.out.grow HB2.out)
              have x1 := qx 1 _ rfl
              have x2 := qx 2 _ rfl
              have x3 := qx 3 _ rfl
              have x4 := qx 4 _ rfl
              have x5 := qx 5 _ rfl
              simp only [Nat.add_zero] at x0
              obtain ⟨i0, hi, hz0, hz1, hz2⟩ := info_parts infoV
              clear qx HB2 HBKX hlt2 ht
              have hsw := HBQ.out.size
              have HLIT := Lib.hid (lit_own wr x hsw)
              rcases HBKR.out with ⟨hk0, rfl⟩ | ⟨g, cb, rfl, hg, hk0, hcells⟩
              · have HK0 := Lib.hid hk0
                clear HBKR hk0
                go_wp2_with (at_builtin; refine wpList_append_own_none _ rfl _ _ 22 rfl w1.heap.size 32 i0 6 Try.underlying22 hi _ 1 (Veh.cs x) rfl HLIT.out rfl ?_)
                go_roundw
                case rel => exact ⟨k + 1, by omega, rfl, by go_num, back_next (base := w1.heap.size) (by rw [HK0.out]; simpa [revs] using HLIT.out) HX.out, HBQ.out.alloc hsw _⟩
                case measure => simp [intOf]; omega
              · have HC : Hid (∀ j u, (revs L k)[j]? = some u → (wr.alloc (.cells (Veh.vs x) 32)).cell? ((⟨g, 0, none⟩ : Addr).add j) = some u) := Lib.hid (fun j u hu => by
                  have e : (⟨g, 0, none⟩ : Addr).add j = ⟨g, j, none⟩ := by unfold Addr.add; split <;> simp_all
                  rw [e]
                  exact (World.cell?_alloc_lt wr _ ⟨g, j, none⟩ hg).trans (hcells j u hu))
                have HRL : Hid ((revs L k).length = k * 6) := Lib.hid (revs_len (by rw [HLEN.out]; omega))
                clear hcells HBKR
                go_wp2_with (at_builtin; refine wpList_append_own _ rfl _ _ 22 rfl w1.heap.size 32 i0 _ 6 56 Try.underlying22 hi hz0 hz1 hz2 rfl (by decide) _ 1 (Veh.cs x) rfl HLIT.out ⟨g, 0, none⟩ k cb (revs L k) rfl HRL.out HC.out (revs_one L k) (by unfold maxLen; omega) (by omega) (by simp; omega) ?_; intro v' w2 hown2 hg2 _; have HO2 := Lib.hid hown2; have HG2 := Lib.hid hg2; clear hown2 hg2)
                go_roundw
                case rel => exact ⟨k + 1, by omega, rfl, by go_num, back_next HO2.out HX.out, (HBQ.out.alloc hsw (.cells (Veh.vs x) 32)).grown HG2.out (by simp; omega) (fun j e => by have e2 : wr.heap.size = j := Option.some.inj e; rw [← e2]; exact hsw)⟩
                case measure => simp [intOf]; omega
      · obtain rfl : k = n := by omega
        obtain ⟨A9, c9, rfl, hrd9⟩ := HBK.out.rd (by rw [HLEN.out]; exact Nat.le_refl _)
        rw [← HLEN.out, List.take_length, HLEN.out] at hrd9
        have HRV := Lib.hid hrd9
        have HRN := Lib.hid ((HR1.out.below HBEL.out).mono (S' := (· < wr.heap.size)) fun b' hb' => Nat.lt_of_lt_of_le hb' HBEL.out.size)
        have HWA := Lib.hid (want_all (n := m) (m := q) (L := L) (by rw [HLEN.out]; omega) (by rw [HLEN.out]; exact h16))
        have HWR := Lib.hid (want_rev (n := m) (m := q) (L := L) (by rw [HLEN.out]; omega) (by rw [HLEN.out]; exact h16))
        clear hrd9 HBK hlt hk
        cases hw : wantB L m q k
        · have n1 : ((chkV L m q) == 0) = false := beq_eq_false_iff_ne.2 (of_decide_eq_false (by rw [HWA.out, HLEN.out, hw]))
          have n2 : ((chkV L.reverse m q) == 0) = false := beq_eq_false_iff_ne.2 (of_decide_eq_false (by rw [HWR.out, HLEN.out, hw]))
          generalize hE1 : chkV L m q = E1 at *
          generalize hE2 : chkV L.reverse m q = E2 at *
          go_wp2_with fail
          refine (check_any HRN.out HN.out HSZ.out m q).mono ?_
          rw [hE1]
          rintro e w3 ⟨rfl, hb3⟩
          have HB3 := Lib.hid (HBEL.out.trans (hb3.mono HBEL.out.size))
          have HRV3 := Lib.hid (HRV.out.up hb3)
          clear hb3
          go_wp2_with fail
          refine (check_any HRV3.out HN.out (fun y hy => HSZ.out y (List.mem_reverse.1 hy)) m q).mono ?_
          rw [hE2]
          rintro e w4 ⟨rfl, hb4⟩
          have HB4 := Lib.hid (HB3.out.trans (hb4.mono HB3.out.size))
          clear hb4
          go_wp2_with fail
          refine (awake_any _).mono ?_
          rintro e w9 ⟨rfl, hb9⟩
          have HB := Lib.hid (HB1.out.trans ((HB4.out.mono HB1.out.size).trans (hb9.mono (Nat.le_trans HB1.out.size HB4.out.size))))
          clear hb9
          go_wp2
          go_ret
          exact ⟨rfl, HB.out⟩
        · have n1 : chkV L m q = 0 := of_decide_eq_true (by rw [HWA.out, HLEN.out, hw])
          have n2 : chkV L.reverse m q = 0 := of_decide_eq_true (by rw [HWR.out, HLEN.out, hw])
          have N1 := Lib.hid n1
          have N2 := Lib.hid n2
          clear n1 n2
          go_wp2_with fail
          refine (check_any HRN.out HN.out HSZ.out m q).mono ?_
          rw [N1.out]
          rintro e w3 ⟨rfl, hb3⟩
          have HB3 := Lib.hid (HBEL.out.trans (hb3.mono HBEL.out.size))
          have HRV3 := Lib.hid (HRV.out.up hb3)
          clear hb3
          go_wp2_with fail
          refine (check_any HRV3.out HN.out (fun y hy => HSZ.out y (List.mem_reverse.1 hy)) m q).mono ?_
          rw [N2.out]
          rintro e w4 ⟨rfl, hb4⟩
          have HB4 := Lib.hid (HB3.out.trans (hb4.mono HB3.out.size))
          clear hb4
          go_wp2_with fail
          refine (awake_any _).mono ?_
          rintro e w9 ⟨rfl, hb9⟩
          have HB := Lib.hid (HB1.out.trans ((HB4.out.mono HB1.out.size).trans (hb9.mono (Nat.le_trans HB1.out.size HB4.out.size))))
          clear hb9
          go_wp2
          go_ret
          exact ⟨rfl, HB.out⟩

theorem own : ownKnob Try.prog.godebug = none := by kernel_rfl
theorem laidOut : laidOutB Try.prog = true := by kernel_rfl
set_option maxRecDepth 100000 in
theorem lifted (os : Os) (started : os.Started) (H : Type) (enc : TypeId × Value → H) :
    ReturnsInHanded {} Try.checked os 8 .any (Rows.vehicleAloneSpec.pre6 enc Try.prog Try.f8 Rows.vehicleAloneRow.domain false) (Rows.vehicleAloneSpec.post enc Try.prog Try.f8 false true false false) := by
  refine returnsInHanded_of_change (C := Try.checked) own started (by kernel_rfl) Try.func8
    (ChangeSpec.witness6 (enc := enc) (C := Try.checked) false ⟨#[], #[.slice none 0 0, .int .i64 0, .int .i64 0], []⟩ 8 (by kernel_rfl) (by kernel_rfl) (by kernel_rfl) (by kernel_rfl)) ?_
  intro W base args ds gs before hval0 hW hcnd _
  have hval : ∀ (j : Nat) t v, Try.f8.params[j]? = some t → args[j]? = some v → Value.okWide Try.prog W .any base t v := hval0
  have hW' := hW
  obtain ⟨p, q, hA0, hV, rfl, hfz, hnd⟩ := hW
  have hA : DataW.TrodAll enc Try.prog W 0 (fun _ => true) true Try.f8.params.toList args.toList ds p := hA0
  rw [Try.params8] at hA hval
  obtain ⟨v0, vs0, d0, ds0, p0, q0, hargs, rfl, rfl, h0, r0⟩ := trodAll_cons hA
  obtain ⟨v1, vs1, d1, ds1, p1, q1, rfl, rfl, rfl, h1, r1⟩ := trodAll_cons r0
  obtain ⟨v2, vs2, d2, ds2, p2, q2, rfl, rfl, rfl, h2, r2⟩ := trodAll_cons r1
  obtain ⟨rfl, rfl, rfl⟩ := trodAll_nil r2
  obtain rfl : args = #[v0, v1, v2] := by cases args; simp_all
  obtain ⟨rfl, rfl⟩ := trodVars_none hV
  have k0 := h0
  have lt0 : ∀ x ∈ p0, x.block < W.heap.size := by obtain ⟨m, hm⟩ := k0; exact DataW.trod_lt m _ _ _ hm
  have O0 := open_vehs W (hval 0 22 v0 rfl rfl) h0
  have k1 := h1
  have lt1 : ∀ x ∈ p1, x.block < W.heap.size := by obtain ⟨m, hm⟩ := k1; exact DataW.trod_lt m _ _ _ hm
  have O1 := open_int W (hval 1 3 v1 rfl rfl) h1
  have k2 := h2
  have lt2 : ∀ x ∈ p2, x.block < W.heap.size := by obtain ⟨m, hm⟩ := k2; exact DataW.trod_lt m _ _ _ hm
  have O2 := open_int W (hval 2 3 v2 rfl rfl) h2
  clear hA0 hval0
  refine (walk W v0 O0 v1 O1 v2 O2).mono fun e W' ⟨he, bel⟩ => ?_
  subst he
  exact ⟨_, rfl, _, _, _, [], _, [], hW', trodAll_mk1 (shut_bool Try.underlying4 _), (trodAll_cons_mk (Below.trod laidOut (by kernel_rfl) (of_decide_eq_true (by kernel_rfl)) k0 bel lt0) (trodAll_cons_mk (Below.trod laidOut (by kernel_rfl) (of_decide_eq_true (by kernel_rfl)) k1 bel lt1) (trodAll_cons_mk (Below.trod laidOut (by kernel_rfl) (of_decide_eq_true (by kernel_rfl)) k2 bel lt2) trodAll_mk0))), rfl, bel.frame _, fun h => by cases h⟩
theorem over : Rows.vehicleAloneRow.holds Try.pinned (OpenSpec.ofChange Rows.vehicleAloneSpec) :=
  OpenClaim.holds_of_wide 8 Try.f8 rfl rfl rfl rfl rfl rfl rfl ⟨rfl, rfl, rfl, rfl, rfl⟩ rfl rfl rfl rfl rfl (by kernel_rfl) Try.func8 (by kernel_rfl)
    (of_decide_eq_true (by kernel_rfl)) (by unfold Func.isWrapper; first | (rw [if_pos (by decide +kernel)]; kernel_rfl) | (rw [if_neg (by decide +kernel)]; exact ⟨rfl, rfl⟩))
    (fun os started H enc _ => lifted os started H enc)
theorem proved : Rows.VehicleAloneSaid := over
#print axioms proved

end Go.Proofs.Ythalbjnjlgnndaa.vehicleAlone
