/- VehicleFits: whether any loads fit together (at most 1000 loads), as the reference has it; the fixed examples hold. No condition. -/
import Derived.Test.YthalbjnjlgnndaaAwake20
import Derived.Test.YthalbjnjlgnndaaOpenV
import Derived.Deep.RegionHeld3
import Derived.Deep.DrawnRows
import Derived.Deep.DeepCutAuto
namespace Go.Proofs.Ythalbjnjlgnndaa.vehicleFits
open Go.ChangeShapes Go.WideShapes Go.ChangeAt Go.RowKit
set_option linter.unusedVariables false

set_option maxRecDepth 100000 in
set_option maxHeartbeats 3200000 in
theorem walk (w : World) (v0 : Value) (hv0 : IsInt .i64 v0) (v1 : Value) (hv1 : IsInts w v1) :
    Calls Try.prog 5 #[v0, v1] w fun e w' => e = .returned (.bool true) ∧ Below w.heap.size w w' := by
  obtain ⟨g, rfl, hg⟩ := hv0
  obtain ⟨A, n, c, l, rfl, hr, hn, hnc, hok⟩ := hv1
  have HG := Lib.hid (wf_i64 hg)
  have HR := Lib.hid hr
  have HN := Lib.hid hn
  have HOK := Lib.hid hok
  unfold maxLen at hn
  clear hr hok hg hnc
  by_cases h1000 : 1000 < n
  · go_enter Try.func5, Try.ntmps5
    go_wp2_with fail
    refine (awake_any _).mono ?_
    rintro e w9 ⟨rfl, hb9⟩
    have HB := Lib.hid hb9
    clear hb9
    go_wp2
    go_ret
    exact ⟨rfl, HB.out⟩
  · go_enter Try.func5, Try.ntmps5
    go_wp2_with fail
    have k0 := Blk.new w 32 #[.string ⟨#[]⟩, .int .i64 0, .int .i64 0, .int .i64 0, .int .i64 g, .int .i64 0]
    obtain ⟨w0, hw0, hb0⟩ : ∃ w0, w.alloc (.cells #[.string ⟨#[]⟩, .int .i64 0, .int .i64 0, .int .i64 0, .int .i64 g, .int .i64 0] 32) = w0 ∧ Below w.heap.size w w0 := ⟨_, rfl, by go_grown⟩
    rw [hw0] at k0 ⊢
    clear hw0
    have HR0 := Lib.hid (HR.out.up hb0)
    have HB0 := Lib.hid hb0
    have HS : Hid (∀ W, Below w0.heap.size w0 W → (Below w0.heap.size w0 W ∧ W.cell? ⟨w.heap.size, 0, none⟩ = some (.string ⟨#[]⟩) ∧ W.cell? ⟨w.heap.size, 1, none⟩ = some (.int .i64 0) ∧ W.cell? ⟨w.heap.size, 2, none⟩ = some (.int .i64 0) ∧ W.cell? ⟨w.heap.size, 3, none⟩ = some (.int .i64 0) ∧ W.cell? ⟨w.heap.size, 4, none⟩ = some (.int .i64 g) ∧ W.cell? ⟨w.heap.size, 5, none⟩ = some (.int .i64 0))) := Lib.hid (fun W hW => by
      have k := k0.grow hW
      exact ⟨hW, k.cell 0, k.cell 1, k.cell 2, k.cell 3, k.cell 4, k.cell 5⟩)
    have HI := Lib.hid (HS.out w0 (Below.refl _ _))
    clear hb0 k0
    obtain ⟨s0, s1, s2, s3, s4, s5, s6⟩ := HI.out
    go_region_held3 (fun W => Below w0.heap.size w0 W ∧ W.cell? ⟨w.heap.size, 0, none⟩ = some (.string ⟨#[]⟩) ∧ W.cell? ⟨w.heap.size, 1, none⟩ = some (.int .i64 0) ∧ W.cell? ⟨w.heap.size, 2, none⟩ = some (.int .i64 0) ∧ W.cell? ⟨w.heap.size, 3, none⟩ = some (.int .i64 0) ∧ W.cell? ⟨w.heap.size, 4, none⟩ = some (.int .i64 g) ∧ W.cell? ⟨w.heap.size, 5, none⟩ = some (.int .i64 0))
      (first | exact HS.out _ HBN.out | exact HI.out | exact HS.out _ ⟨s0.os, s0.tape, s0.output, s0.size, s0.block⟩)
      (first
        | (go_split_ands; go_at_call 21; refine (fits_any (v := ⟨⟨#[]⟩, 0, 0, 0, g, 0⟩) (c := c) HG.out (HR0.out.up (by assumption)) HN.out HOK.out).mono ?_; rintro e wN ⟨rfl, hbN⟩; have HBN := Lib.hid (Below.trans (show Below w0.heap.size w0 _ by assumption) (hbN.mono (Below.size (show Below w0.heap.size w0 _ by assumption)))); clear hbN)
        | (go_split_ands; go_at_call 22; refine (rfits_any (v := ⟨⟨#[]⟩, 0, 0, 0, g, 0⟩) (c := c) HG.out (HR0.out.up (by assumption)) HN.out HOK.out).mono ?_; rintro e wN ⟨rfl, hbN⟩; have HBN := Lib.hid (Below.trans (show Below w0.heap.size w0 _ by assumption) (hbN.mono (Below.size (show Below w0.heap.size w0 _ by assumption)))); clear hbN)
        | (go_split_ands; go_at_call 11; refine (awake_any _).mono ?_; rintro e wN ⟨rfl, hbN⟩; have HBN := Lib.hid (Below.trans (show Below w0.heap.size w0 _ by assumption) (hbN.mono (Below.size (show Below w0.heap.size w0 _ by assumption)))); clear hbN))
    go_wp2
    go_ret
    exact ⟨rfl, HB0.out.trans (HBN.out.mono HB0.out.size)⟩

theorem own : ownKnob Try.prog.godebug = none := by kernel_rfl
theorem laidOut : laidOutB Try.prog = true := by kernel_rfl
set_option maxRecDepth 100000 in
theorem lifted (os : Os) (started : os.Started) (H : Type) (enc : TypeId × Value → H) :
    ReturnsInHanded {} Try.checked os 5 .any (Rows.vehicleFitsSpec.pre6 enc Try.prog Try.f5 Rows.vehicleFitsRow.domain false) (Rows.vehicleFitsSpec.post enc Try.prog Try.f5 false true false false) := by
  refine returnsInHanded_of_change (C := Try.checked) own started (by kernel_rfl) Try.func5
    (ChangeSpec.witness6 (enc := enc) (C := Try.checked) false ⟨#[], #[.int .i64 0, .slice none 0 0], []⟩ 8 (by kernel_rfl) (by kernel_rfl) (by kernel_rfl) (by kernel_rfl)) ?_
  intro W base args ds gs before hval0 hW hcnd _
  have hval : ∀ (j : Nat) t v, Try.f5.params[j]? = some t → args[j]? = some v → Value.okWide Try.prog W .any base t v := hval0
  have hW' := hW
  obtain ⟨p, q, hA0, hV, rfl, hfz, hnd⟩ := hW
  have hA : DataW.TrodAll enc Try.prog W 0 (fun _ => true) true Try.f5.params.toList args.toList ds p := hA0
  rw [Try.params5] at hA hval
  obtain ⟨v0, vs0, d0, ds0, p0, q0, hargs, rfl, rfl, h0, r0⟩ := trodAll_cons hA
  obtain ⟨v1, vs1, d1, ds1, p1, q1, rfl, rfl, rfl, h1, r1⟩ := trodAll_cons r0
  obtain ⟨rfl, rfl, rfl⟩ := trodAll_nil r1
  obtain rfl : args = #[v0, v1] := by cases args; simp_all
  obtain ⟨rfl, rfl⟩ := trodVars_none hV
  have k0 := h0
  have lt0 : ∀ x ∈ p0, x.block < W.heap.size := by obtain ⟨m, hm⟩ := k0; exact DataW.trod_lt m _ _ _ hm
  have O0 := open_int W (hval 0 3 v0 rfl rfl) h0
  have k1 := h1
  have lt1 : ∀ x ∈ p1, x.block < W.heap.size := by obtain ⟨m, hm⟩ := k1; exact DataW.trod_lt m _ _ _ hm
  have O1 := open_ints W (hval 1 34 v1 rfl rfl) h1
  clear hA0 hval0
  refine (walk W v0 O0 v1 O1).mono fun e W' ⟨he, bel⟩ => ?_
  subst he
  exact ⟨_, rfl, _, _, _, [], _, [], hW', trodAll_mk1 (shut_bool Try.underlying4 _), (trodAll_cons_mk (Below.trod laidOut (by kernel_rfl) (of_decide_eq_true (by kernel_rfl)) k0 bel lt0) (trodAll_cons_mk (Below.trod laidOut (by kernel_rfl) (of_decide_eq_true (by kernel_rfl)) k1 bel lt1) trodAll_mk0)), rfl, bel.frame _, fun h => by cases h⟩
theorem over : Rows.vehicleFitsRow.holds Try.pinned (OpenSpec.ofChange Rows.vehicleFitsSpec) :=
  OpenClaim.holds_of_wide 5 Try.f5 rfl rfl rfl rfl rfl rfl rfl ⟨rfl, rfl, rfl, rfl, rfl⟩ rfl rfl rfl rfl rfl (by kernel_rfl) Try.func5 (by kernel_rfl)
    (of_decide_eq_true (by kernel_rfl)) (by unfold Func.isWrapper; first | (rw [if_pos (by decide +kernel)]; kernel_rfl) | (rw [if_neg (by decide +kernel)]; exact ⟨rfl, rfl⟩))
    (fun os started H enc _ => lifted os started H enc)
theorem proved : Rows.VehicleFitsSaid := over
#print axioms proved

end Go.Proofs.Ythalbjnjlgnndaa.vehicleFits
