/- VehicleCarries: which kinds any vehicle carries, and which of any vehicles carry a kind (at most 40 vehicles), as the reference has it; the fixed examples hold. No condition. -/
import Derived.Test.YthalbjnjlgnndaaAwake20
import Derived.Test.YthalbjnjlgnndaaOpenV
import Derived.Deep.RegionHeld3
import Derived.Deep.DrawnRows
import Derived.Deep.DeepCutAuto
namespace Go.Proofs.Ythalbjnjlgnndaa.vehicleCarries
open Go.ChangeShapes Go.WideShapes Go.ChangeAt Go.RowKit
set_option linter.unusedVariables false

set_option maxRecDepth 100000 in
set_option maxHeartbeats 3200000 in
theorem walk (w : World) (v0 : Value) (hv0 : IsVehs w v0) (v1 : Value) (hv1 : IsInt .i64 v1) :
    Calls Try.prog 4 #[v0, v1] w fun e w' => e = .returned (.bool true) ∧ Below w.heap.size w w' := by
  obtain ⟨A, n, c, L, rfl, hr, hn, hnc, hok⟩ := hv0
  obtain ⟨q, rfl, _⟩ := hv1
  have hsz : ∀ x ∈ L, x.id.size ≤ maxLen := fun x hx => (hok x hx).1
  have HR := Lib.hid hr
  have HSZ := Lib.hid hsz
  have HN := Lib.hid hn
  have HL : Hid (L.length = n) := Lib.hid hr.1
  clear hr hsz hok hn hnc
  cases hb : smallB L
  · have HBL := Lib.hid hb
    clear hb
    go_enter Try.func4, Try.ntmps4
    go_wp2_with fail
    refine (small_any HR.out HN.out HSZ.out).mono ?_
    rw [HBL.out]
    rintro e w1 ⟨rfl, hb1⟩
    have HB1 := Lib.hid hb1
    clear hb1
    go_wp2_with fail
    refine (awake_any _).mono ?_
    rintro e w9 ⟨rfl, hb9⟩
    have HB9 := Lib.hid (HB1.out.trans (hb9.mono HB1.out.size))
    clear hb9
    go_wp2
    go_ret
    exact ⟨rfl, HB9.out⟩
  · have HBL0 := Lib.hid hb
    have h40 : n ≤ 40 := by rw [← HL.out]; exact (smallB_true hb).1
    clear hb
    go_enter Try.func4, Try.ntmps4
    go_wp2_with fail
    refine (small_any HR.out HN.out HSZ.out).mono ?_
    rw [HBL0.out]
    rintro e w1 ⟨rfl, hb1⟩
    have HB1 := Lib.hid hb1
    clear hb1
    go_wp2_with fail
    go_loopw [5] (fun i wr => ∃ k : Nat, k ≤ n ∧ i = .int .i64 (k : Nat) ∧ Below w.heap.size w wr) (fun i _ => n - (intOf i).toNat)
    case atStart => exact ⟨0, Nat.zero_le _, rfl, HB1.out⟩
    case round =>
      obtain ⟨k, hk, rfl, hbel⟩ := hrel
      have HB := Lib.hid hbel
      clear hbel
      by_cases hlt : k < n
      · obtain ⟨x, hx⟩ := at_lt (l := L) (k := k) (by rw [HL.out]; exact hlt)
        obtain ⟨b, o, rfl, hb, hc⟩ := HR.out.2 (by omega)
        have HX := Lib.hid hx
        have i1 : (0 : Int) ≤ (k : Int) := by omega
        have i2 : (k : Int) < (n : Int) := by omega
        have HS : Hid (∀ W, Below w.heap.size w W → (Below w.heap.size w W ∧ W.cell? ⟨b, o + k * 6, none⟩ = some (.string x.id) ∧ W.cell? ⟨b, o + k * 6 + 1, none⟩ = some (.int .i64 x.depot) ∧ W.cell? ⟨b, o + k * 6 + 2, none⟩ = some (.int .i64 x.from_) ∧ W.cell? ⟨b, o + k * 6 + 3, none⟩ = some (.int .i64 x.to_) ∧ W.cell? ⟨b, o + k * 6 + 4, none⟩ = some (.int .i64 x.gr) ∧ W.cell? ⟨b, o + k * 6 + 5, none⟩ = some (.int .i64 x.kinds))) := Lib.hid (fun W hW => by
          have hcx := (HR.out.cells_ hlt HX.out hW).2
          exact ⟨hW, hcx 0 _ rfl, hcx 1 _ rfl, hcx 2 _ rfl, hcx 3 _ rfl, hcx 4 _ rfl, hcx 5 _ rfl⟩)
        have HI := Lib.hid (HS.out wr HB.out)
        clear hx hc
        obtain ⟨ca, hca⟩ : ∃ y, carB x.kinds q = y := ⟨_, rfl⟩
        have HC := Lib.hid hca
        obtain ⟨kl, hkl⟩ : ∃ y, kindsL x.kinds = y := ⟨_, rfl⟩
        have HK := Lib.hid hkl
        have HKL : Hid (kl.length ≤ 1099511627776) := Lib.hid (by
          have h1 := kindsK_len x.kinds 16
          have h2 : kindsK x.kinds 16 = kindsL x.kinds := rfl
          rw [h2, hkl] at h1
          omega)
        clear hca hkl
        go_wp2_with fail
        obtain ⟨s0, s1, s2, s3, s4, s5, s6⟩ := HI.out
        go_region_held3 (fun W => Below w.heap.size w W ∧ W.cell? ⟨b, o + k * 6, none⟩ = some (.string x.id) ∧ W.cell? ⟨b, o + k * 6 + 1, none⟩ = some (.int .i64 x.depot) ∧ W.cell? ⟨b, o + k * 6 + 2, none⟩ = some (.int .i64 x.from_) ∧ W.cell? ⟨b, o + k * 6 + 3, none⟩ = some (.int .i64 x.to_) ∧ W.cell? ⟨b, o + k * 6 + 4, none⟩ = some (.int .i64 x.gr) ∧ W.cell? ⟨b, o + k * 6 + 5, none⟩ = some (.int .i64 x.kinds))
          (first | exact HS.out _ HBN.out | exact HI.out | exact HS.out _ ⟨s0.os, s0.tape, s0.output, s0.size, s0.block⟩)
          (first
            | (go_split_ands; go_at_call 14; refine (carries_any x q _).mono ?_; rw [HC.out]; rintro e wN ⟨rfl, hbN⟩; have HBL := Lib.hid hbN; have HBN := Lib.hid (Below.trans (show Below w.heap.size w _ by assumption) (hbN.mono (Below.size (show Below w.heap.size w _ by assumption)))); clear hbN)
            | (go_split_ands; go_at_call 15; refine (rcarries_any x q _).mono ?_; rw [HC.out]; rintro e wN ⟨rfl, hbN⟩; have HBL := Lib.hid hbN; have HBN := Lib.hid (Below.trans (show Below w.heap.size w _ by assumption) (hbN.mono (Below.size (show Below w.heap.size w _ by assumption)))); clear hbN)
            | (go_split_ands; go_at_call 17; refine (kinds_any x _).mono ?_; rw [HK.out]; rintro e wN ⟨A1, c1, rfl, hr1, hbN⟩; have HBL := Lib.hid hbN; have HBN := Lib.hid (Below.trans (show Below w.heap.size w _ by assumption) (hbN.mono (Below.size (show Below w.heap.size w _ by assumption)))); clear hbN; have HR1 := Lib.hid (hr1.mono fun b h => h.2); clear hr1)
            | (go_split_ands; go_at_call 18; refine (rkinds_any x _).mono ?_; rw [HK.out]; rintro e wN ⟨A2, c2, rfl, hr2, hbN⟩; have HBL := Lib.hid hbN; have HBN := Lib.hid (Below.trans (show Below w.heap.size w _ by assumption) (hbN.mono (Below.size (show Below w.heap.size w _ by assumption)))); clear hbN; have HR2 := Lib.hid (hr2.mono fun b h => h.2); have HR3 := Lib.hid (HR1.out.up HBL.out); clear hr2)
            | (go_split_ands; go_at_call 16; refine (ints_any HR3.out HR2.out HKL.out).mono ?_; rintro e wN ⟨rfl, hbN⟩; have HBL := Lib.hid hbN; have HBN := Lib.hid (Below.trans (show Below w.heap.size w _ by assumption) (hbN.mono (Below.size (show Below w.heap.size w _ by assumption)))); clear hbN))
        clear s0 s1 s2 s3 s4 s5 s6
        go_wp2
        go_roundw
        case rel => exact ⟨k + 1, by omega, by go_num, HBN.out⟩
        case measure => simp [intOf]; omega
      · have e : k = n := by omega
        subst e
        have HRr := Lib.hid ((HR.out.below HB.out).mono (fun b hb => Nat.lt_of_lt_of_le hb HB.out.size))
        have hn' : k ≤ 1099511627776 := by omega
        go_wp2_with fail
        refine (useful_any (c := c) HRr.out hn' q).mono ?_
        rintro e w4 ⟨A4, c4, rfl, hr4, hb4⟩
        have HB4 := Lib.hid (HB.out.trans (hb4.mono HB.out.size))
        have HR4 := Lib.hid (HRr.out.up hb4)
        have HI4 := Lib.hid (hr4.mono fun b h => h.2)
        clear hb4 hr4
        go_wp2_with fail
        refine (ruseful_any (c := c) HR4.out hn' q).mono ?_
        rintro e w5 ⟨A5, c5, rfl, hr5, hb5⟩
        have HB5 := Lib.hid (HB4.out.trans (hb5.mono HB4.out.size))
        have HI5 := Lib.hid (hr5.mono fun b h => h.2)
        have HI6 := Lib.hid (HI4.out.up hb5)
        clear hb5 hr5
        have hl : (atL (fun x : Veh => carB x.kinds q) L).length ≤ 1099511627776 := by
          have h1 := atL_len (fun x : Veh => carB x.kinds q) L
          have h3 := HL.out
          omega
        have HLL := Lib.hid hl
        clear hl
        go_wp2_with fail
        refine (ints_any HI6.out HI5.out HLL.out).mono ?_
        rintro e w6 ⟨rfl, hb6⟩
        have HB6 := Lib.hid (HB5.out.trans (hb6.mono HB5.out.size))
        clear hb6
        go_wp2_with fail
        refine (awake_any _).mono ?_
        rintro e w9 ⟨rfl, hb9⟩
        have HB9 := Lib.hid (HB6.out.trans (hb9.mono HB6.out.size))
        clear hb9
        go_wp2
        go_ret
        exact ⟨rfl, HB9.out⟩

theorem own : ownKnob Try.prog.godebug = none := by kernel_rfl
theorem laidOut : laidOutB Try.prog = true := by kernel_rfl
set_option maxRecDepth 100000 in
theorem lifted (os : Os) (started : os.Started) (H : Type) (enc : TypeId × Value → H) :
    ReturnsInHanded {} Try.checked os 4 .any (Rows.vehicleCarriesSpec.pre6 enc Try.prog Try.f4 Rows.vehicleCarriesRow.domain false) (Rows.vehicleCarriesSpec.post enc Try.prog Try.f4 false true false false) := by
  refine returnsInHanded_of_change (C := Try.checked) own started (by kernel_rfl) Try.func4
    (ChangeSpec.witness6 (enc := enc) (C := Try.checked) false ⟨#[], #[.slice none 0 0, .int .i64 0], []⟩ 8 (by kernel_rfl) (by kernel_rfl) (by kernel_rfl) (by kernel_rfl)) ?_
  intro W base args ds gs before hval0 hW hcnd _
  have hval : ∀ (j : Nat) t v, Try.f4.params[j]? = some t → args[j]? = some v → Value.okWide Try.prog W .any base t v := hval0
  have hW' := hW
  obtain ⟨p, q, hA0, hV, rfl, hfz, hnd⟩ := hW
  have hA : DataW.TrodAll enc Try.prog W 0 (fun _ => true) true Try.f4.params.toList args.toList ds p := hA0
  rw [Try.params4] at hA hval
  obtain ⟨v0, vs0, d0, ds0, p0, q0, hargs, rfl, rfl, h0, r0⟩ := trodAll_cons hA
  obtain ⟨v1, vs1, d1, ds1, p1, q1, rfl, rfl, rfl, h1, r1⟩ := trodAll_cons r0
  obtain ⟨rfl, rfl, rfl⟩ := trodAll_nil r1
  obtain rfl : args = #[v0, v1] := by cases args; simp_all
  obtain ⟨rfl, rfl⟩ := trodVars_none hV
  have k0 := h0
  have lt0 : ∀ x ∈ p0, x.block < W.heap.size := by obtain ⟨m, hm⟩ := k0; exact DataW.trod_lt m _ _ _ hm
  have O0 := open_vehs W (hval 0 22 v0 rfl rfl) h0
  have k1 := h1
  have lt1 : ∀ x ∈ p1, x.block < W.heap.size := by obtain ⟨m, hm⟩ := k1; exact DataW.trod_lt m _ _ _ hm
  have O1 := open_int W (hval 1 3 v1 rfl rfl) h1
  clear hA0 hval0
  refine (walk W v0 O0 v1 O1).mono fun e W' ⟨he, bel⟩ => ?_
  subst he
  exact ⟨_, rfl, _, _, _, [], _, [], hW', trodAll_mk1 (shut_bool Try.underlying4 _), (trodAll_cons_mk (Below.trod laidOut (by kernel_rfl) (of_decide_eq_true (by kernel_rfl)) k0 bel lt0) (trodAll_cons_mk (Below.trod laidOut (by kernel_rfl) (of_decide_eq_true (by kernel_rfl)) k1 bel lt1) trodAll_mk0)), rfl, bel.frame _, fun h => by cases h⟩
theorem over : Rows.vehicleCarriesRow.holds Try.pinned (OpenSpec.ofChange Rows.vehicleCarriesSpec) :=
  OpenClaim.holds_of_wide 4 Try.f4 rfl rfl rfl rfl rfl rfl rfl ⟨rfl, rfl, rfl, rfl, rfl⟩ rfl rfl rfl rfl rfl (by kernel_rfl) Try.func4 (by kernel_rfl)
    (of_decide_eq_true (by kernel_rfl)) (by unfold Func.isWrapper; first | (rw [if_pos (by decide +kernel)]; kernel_rfl) | (rw [if_neg (by decide +kernel)]; exact ⟨rfl, rfl⟩))
    (fun os started H enc _ => lifted os started H enc)
theorem proved : Rows.VehicleCarriesSaid := over
#print axioms proved

end Go.Proofs.Ythalbjnjlgnndaa.vehicleCarries
