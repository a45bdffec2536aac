/- FillLevels: whether any sensor is valid, and the levels for any reading on any day: as the reference says; the fixed examples hold. No condition. -/
import Derived.Test.YtopdcngplcoejaaAwake16
import Derived.Deep.RegionWith
import Derived.Deep.DeepCutAuto
import Derived.Test.YtopdcngplcoejaaOpenS
namespace Go.Proofs.Ytopdcngplcoejaa.fillLevels
open Go.ChangeShapes Go.WideShapes Go.ChangeAt Go.RowKit
set_option linter.unusedVariables false

set_option maxRecDepth 100000 in
set_option maxHeartbeats 1600000 in
theorem walk (w : World) (v0 : Value) (hv0 : IsInt4 v0) (v1 : Value) (hv1 : IsInt .i64 v1) (v2 : Value) (hv2 : IsInt .i64 v2) :
    Calls Try.prog 3 #[v0, v1, v2] w fun e w' => e = .returned (.bool true) ∧ Below w.heap.size w w' := by
  obtain ⟨em, fu, er, dr, rfl, _, _, _, _⟩ := hv0
  obtain ⟨raw, rfl, _⟩ := hv1
  obtain ⟨days, rfl, _⟩ := hv2
  go_enter Try.func3, Try.ntmps3
  go_wp2_with fail
  have hb0 : Below w.heap.size w (w.alloc (.cells #[.int .i64 em, .int .i64 fu, .int .i64 er, .int .i64 dr] 23)) := by go_grown
  have k0 := (Blk.new w 23 #[.int .i64 em, .int .i64 fu, .int .i64 er, .int .i64 dr])
  have z0 := k0.lt
  refine (level_any _ _ _ _ _ _ _).mono ?_
  rintro e w1 ⟨rfl, hb1⟩
  have s1 := hb1.size
  have B1 := Lib.hid (hb0.trans (hb1.mono (by omega)))
  have K0 := Lib.hid (k0.grow hb1)
  clear hb0 hb1 k0
  have c0 := (K0.out).cell 0
  have c1 := (K0.out).cell 1
  have c2 := (K0.out).cell 2
  have c3 := (K0.out).cell 3
  simp at c0 c1 c2 c3
  have d0 := (K0.out.alloc (.cells #[.int .i64 (lvLo em fu er dr raw days), .int .i64 (lvHi em fu er dr raw days)] 25)).cell 0
  have d1 := (K0.out.alloc (.cells #[.int .i64 (lvLo em fu er dr raw days), .int .i64 (lvHi em fu er dr raw days)] 25)).cell 1
  have d2 := (K0.out.alloc (.cells #[.int .i64 (lvLo em fu er dr raw days), .int .i64 (lvHi em fu er dr raw days)] 25)).cell 2
  have d3 := (K0.out.alloc (.cells #[.int .i64 (lvLo em fu er dr raw days), .int .i64 (lvHi em fu er dr raw days)] 25)).cell 3
  simp at d0 d1 d2 d3
  have K9 := Lib.hid (Blk.new w1 25 #[.int .i64 (lvLo em fu er dr raw days), .int .i64 (lvHi em fu er dr raw days)])
  have z9 := K9.out.lt
  go_wp2_with fail
  refine (rlevel_any _ _ _ _ _ _ _).mono ?_
  rintro e w2 ⟨rfl, hb2⟩
  have s2 := hb2.size
  have B2 := Lib.hid ((B1.out.alloc (by omega) (.cells #[.int .i64 (lvLo em fu er dr raw days), .int .i64 (lvHi em fu er dr raw days)] 25)).trans (hb2.mono (by omega)))
  have K9a := Lib.hid ((K9.out.grow hb2).alloc (.cells #[.int .i64 (lvLo em fu er dr raw days), .int .i64 (lvHi em fu er dr raw days)] 25))
  have K0a := Lib.hid (((K0.out.alloc (.cells #[.int .i64 (lvLo em fu er dr raw days), .int .i64 (lvHi em fu er dr raw days)] 25)).grow hb2).alloc (.cells #[.int .i64 (lvLo em fu er dr raw days), .int .i64 (lvHi em fu er dr raw days)] 25))
  have K8 := Lib.hid (Blk.new w2 25 #[.int .i64 (lvLo em fu er dr raw days), .int .i64 (lvHi em fu er dr raw days)])
  have z8 := K8.out.lt
  have L0 := K0a.out.lt
  have L9 := K9a.out.lt
  clear hb2 K0 c0 c1 c2 c3 d0 d1 d2 d3
  have c0 := (K0a.out).cell 0
  have c1 := (K0a.out).cell 1
  have c2 := (K0a.out).cell 2
  have c3 := (K0a.out).cell 3
  simp at c0 c1 c2 c3
  have d0 := (K0a.out.alloc (.cells #[.int .i64 em, .int .i64 fu, .int .i64 er, .int .i64 dr] 23)).cell 0
  have d1 := (K0a.out.alloc (.cells #[.int .i64 em, .int .i64 fu, .int .i64 er, .int .i64 dr] 23)).cell 1
  have d2 := (K0a.out.alloc (.cells #[.int .i64 em, .int .i64 fu, .int .i64 er, .int .i64 dr] 23)).cell 2
  have d3 := (K0a.out.alloc (.cells #[.int .i64 em, .int .i64 fu, .int .i64 er, .int .i64 dr] 23)).cell 3
  simp at d0 d1 d2 d3
  have f0 := ((K0a.out.alloc (.cells #[.int .i64 em, .int .i64 fu, .int .i64 er, .int .i64 dr] 23)).alloc (.cells #[.int .i64 em, .int .i64 fu, .int .i64 er, .int .i64 dr] 23)).cell 0
  have f1 := ((K0a.out.alloc (.cells #[.int .i64 em, .int .i64 fu, .int .i64 er, .int .i64 dr] 23)).alloc (.cells #[.int .i64 em, .int .i64 fu, .int .i64 er, .int .i64 dr] 23)).cell 1
  have f2 := ((K0a.out.alloc (.cells #[.int .i64 em, .int .i64 fu, .int .i64 er, .int .i64 dr] 23)).alloc (.cells #[.int .i64 em, .int .i64 fu, .int .i64 er, .int .i64 dr] 23)).cell 2
  have f3 := ((K0a.out.alloc (.cells #[.int .i64 em, .int .i64 fu, .int .i64 er, .int .i64 dr] 23)).alloc (.cells #[.int .i64 em, .int .i64 fu, .int .i64 er, .int .i64 dr] 23)).cell 3
  simp at f0 f1 f2 f3
  have e00 := ((K9a.out.alloc (.cells #[.int .i64 em, .int .i64 fu, .int .i64 er, .int .i64 dr] 23)).alloc (.cells #[.int .i64 em, .int .i64 fu, .int .i64 er, .int .i64 dr] 23)).cell 0
  have e01 := ((K9a.out.alloc (.cells #[.int .i64 em, .int .i64 fu, .int .i64 er, .int .i64 dr] 23)).alloc (.cells #[.int .i64 em, .int .i64 fu, .int .i64 er, .int .i64 dr] 23)).cell 1
  have e10 := ((K8.out.alloc (.cells #[.int .i64 em, .int .i64 fu, .int .i64 er, .int .i64 dr] 23)).alloc (.cells #[.int .i64 em, .int .i64 fu, .int .i64 er, .int .i64 dr] 23)).cell 0
  have e11 := ((K8.out.alloc (.cells #[.int .i64 em, .int .i64 fu, .int .i64 er, .int .i64 dr] 23)).alloc (.cells #[.int .i64 em, .int .i64 fu, .int .i64 er, .int .i64 dr] 23)).cell 1
  simp at e00 e01 e10 e11
  have B3 := Lib.hid (((B2.out.alloc (by omega) (.cells #[.int .i64 (lvLo em fu er dr raw days), .int .i64 (lvHi em fu er dr raw days)] 25)).alloc (by simp; omega) (.cells #[.int .i64 em, .int .i64 fu, .int .i64 er, .int .i64 dr] 23)).alloc (by simp; omega) (.cells #[.int .i64 em, .int .i64 fu, .int .i64 er, .int .i64 dr] 23))
  clear B1 B2 K9 z9 K9a K0a K8
  go_wp2_with fail
  go_upto_region 3 with fail
  go_region_with (first | (go_at_call 13; refine (check_any _ _ _ _ _).mono ?_; rintro e w3 ⟨rfl, rfl⟩) | (go_at_call 14; refine (rcheck_any _ _ _ _ _).mono ?_; rintro e w3 ⟨rfl, rfl⟩) | (go_at_call 15; refine (awake_any _).mono ?_; rintro e w4 ⟨rfl, hb4⟩; have HX := Lib.hid hb4; clear hb4))
  all_goals (go_wp2; go_ret)
  all_goals (have h4 : Below (((w2.alloc (.cells #[.int .i64 (lvLo em fu er dr raw days), .int .i64 (lvHi em fu er dr raw days)] 25)).alloc (.cells #[.int .i64 em, .int .i64 fu, .int .i64 er, .int .i64 dr] 23)).alloc (.cells #[.int .i64 em, .int .i64 fu, .int .i64 er, .int .i64 dr] 23)).heap.size (((w2.alloc (.cells #[.int .i64 (lvLo em fu er dr raw days), .int .i64 (lvHi em fu er dr raw days)] 25)).alloc (.cells #[.int .i64 em, .int .i64 fu, .int .i64 er, .int .i64 dr] 23)).alloc (.cells #[.int .i64 em, .int .i64 fu, .int .i64 er, .int .i64 dr] 23)) w4 := ⟨HX.out.os, HX.out.tape, HX.out.output, HX.out.size, HX.out.block⟩)
  all_goals exact ⟨rfl, B3.out.trans (h4.mono B3.out.size)⟩

theorem own : ownKnob Try.prog.godebug = none := by kernel_rfl
theorem laidOut : laidOutB Try.prog = true := by kernel_rfl
set_option maxRecDepth 100000 in
theorem lifted (os : Os) (started : os.Started) (H : Type) (enc : TypeId × Value → H) :
    ReturnsInHanded {} Try.checked os 3 .any (Rows.fillLevelsSpec.pre6 enc Try.prog Try.f3 Rows.fillLevelsRow.domain false) (Rows.fillLevelsSpec.post enc Try.prog Try.f3 false true false false) := by
  refine returnsInHanded_of_change (C := Try.checked) own started (by kernel_rfl) Try.func3
    (ChangeSpec.witness6 (enc := enc) (C := Try.checked) false ⟨#[], #[.agg #[.int .i64 0, .int .i64 0, .int .i64 0, .int .i64 0], .int .i64 0, .int .i64 0], []⟩ 8 (by kernel_rfl) (by kernel_rfl) (by kernel_rfl) (by kernel_rfl)) ?_
  intro W base args ds gs before hval0 hW hcnd _
  have hval : ∀ (j : Nat) t v, Try.f3.params[j]? = some t → args[j]? = some v → Value.okWide Try.prog W .any base t v := hval0
  have hW' := hW
  obtain ⟨p, q, hA0, hV, rfl, hfz, hnd⟩ := hW
  have hA : DataW.TrodAll enc Try.prog W 0 (fun _ => true) true Try.f3.params.toList args.toList ds p := hA0
  rw [Try.params3] at hA hval
  obtain ⟨v0, vs0, d0, ds0, p0, q0, hargs, rfl, rfl, h0, r0⟩ := trodAll_cons hA
  obtain ⟨v1, vs1, d1, ds1, p1, q1, rfl, rfl, rfl, h1, r1⟩ := trodAll_cons r0
  obtain ⟨v2, vs2, d2, ds2, p2, q2, rfl, rfl, rfl, h2, r2⟩ := trodAll_cons r1
  obtain ⟨rfl, rfl, rfl⟩ := trodAll_nil r2
  obtain rfl : args = #[v0, v1, v2] := by cases args; simp_all
  obtain ⟨rfl, rfl⟩ := trodVars_none hV
  have k0 := h0
  have lt0 : ∀ x ∈ p0, x.block < W.heap.size := by obtain ⟨m, hm⟩ := k0; exact DataW.trod_lt m _ _ _ hm
  have O0 := open_sensor W (hval 0 23 v0 rfl rfl) h0
  have k1 := h1
  have lt1 : ∀ x ∈ p1, x.block < W.heap.size := by obtain ⟨m, hm⟩ := k1; exact DataW.trod_lt m _ _ _ hm
  have O1 := open_int W (hval 1 3 v1 rfl rfl) h1
  have k2 := h2
  have lt2 : ∀ x ∈ p2, x.block < W.heap.size := by obtain ⟨m, hm⟩ := k2; exact DataW.trod_lt m _ _ _ hm
  have O2 := open_int W (hval 2 3 v2 rfl rfl) h2
  clear hA0 hval0
  refine (walk W v0 O0 v1 O1 v2 O2).mono fun e W' ⟨he, bel⟩ => ?_
  subst he
  exact ⟨_, rfl, _, _, _, [], _, [], hW', trodAll_mk1 (shut_bool Try.underlying4 _), (trodAll_cons_mk (Below.trod laidOut (by kernel_rfl) (of_decide_eq_true (by kernel_rfl)) k0 bel lt0) (trodAll_cons_mk (Below.trod laidOut (by kernel_rfl) (of_decide_eq_true (by kernel_rfl)) k1 bel lt1) (trodAll_cons_mk (Below.trod laidOut (by kernel_rfl) (of_decide_eq_true (by kernel_rfl)) k2 bel lt2) trodAll_mk0))), rfl, bel.frame _, fun h => by cases h⟩
theorem over : Rows.fillLevelsRow.holds Try.pinned (OpenSpec.ofChange Rows.fillLevelsSpec) :=
  OpenClaim.holds_of_wide 3 Try.f3 rfl rfl rfl rfl rfl rfl rfl ⟨rfl, rfl, rfl, rfl, rfl⟩ rfl rfl rfl rfl rfl (by kernel_rfl) Try.func3 (by kernel_rfl)
    (of_decide_eq_true (by kernel_rfl)) (by unfold Func.isWrapper; first | (rw [if_pos (by decide +kernel)]; kernel_rfl) | (rw [if_neg (by decide +kernel)]; exact ⟨rfl, rfl⟩))
    (fun os started H enc _ => lifted os started H enc)
theorem proved : Rows.FillLevelsSaid := over
#print axioms proved

end Go.Proofs.Ytopdcngplcoejaa.fillLevels
