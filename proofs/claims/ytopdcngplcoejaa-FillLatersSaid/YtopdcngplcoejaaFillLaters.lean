/- FillLaters: for any mass, rate, time and greatest mass, Later returns what the reference's returns; the fixed examples hold. No condition. -/
import Derived.Test.YtopdcngplcoejaaAwake16
import Derived.Test.YtopdcngplcoejaaOpenS
namespace Go.Proofs.Ytopdcngplcoejaa.fillLaters
open Go.ChangeShapes Go.WideShapes Go.ChangeAt Go.RowKit
set_option linter.unusedVariables false

set_option maxRecDepth 100000 in
set_option maxHeartbeats 1600000 in
theorem walk (w : World) (v0 : Value) (hv0 : IsInt2 .i64 v0) (v1 : Value) (hv1 : IsInt2 .i64 v1) (v2 : Value) (hv2 : IsInt .i64 v2) (v3 : Value) (hv3 : IsInt .i64 v3) :
    Calls Try.prog 5 #[v0, v1, v2, v3] w fun e w' => e = .returned (.bool true) ∧ Below w.heap.size w w' := by
  obtain ⟨lo, hi, rfl, _, _⟩ := hv0
  obtain ⟨mn, mx, rfl, _, _⟩ := hv1
  obtain ⟨secs, rfl, _⟩ := hv2
  obtain ⟨most, rfl, _⟩ := hv3
  go_enter Try.func5, Try.ntmps5
  go_wp2_with fail
  have hb0 : Below w.heap.size w ((w.alloc (.cells #[.int .i64 lo, .int .i64 hi] 25)).alloc (.cells #[.int .i64 mn, .int .i64 mx] 37)) := by go_grown
  have k0 := ((Blk.new w 25 #[.int .i64 lo, .int .i64 hi]).alloc (.cells #[.int .i64 mn, .int .i64 mx] 37))
  have k1 := (Blk.new1 w (.cells #[.int .i64 lo, .int .i64 hi] 25) 37 #[.int .i64 mn, .int .i64 mx])
  have z0 := k1.lt
  refine (later_any _ _ _ _ _ _ _).mono ?_
  rintro e w1 ⟨rfl, hb1⟩
  have s1 := hb1.size
  have B1 := Lib.hid (hb0.trans (hb1.mono (by omega)))
  have K0 := Lib.hid (k0.grow hb1)
  have K1 := Lib.hid (k1.grow hb1)
  clear hb0 hb1 k0 k1
  have c00 := K0.out.cell 0
  have c01 := K0.out.cell 1
  have c10 := K1.out.cell 0
  have c11 := K1.out.cell 1
  simp at c00 c01 c10 c11
  have d00 := (K0.out.alloc (.cells #[.int .i64 (laterLo lo hi mn mx secs most), .int .i64 (laterHi lo hi mn mx secs most)] 25)).cell 0
  have d01 := (K0.out.alloc (.cells #[.int .i64 (laterLo lo hi mn mx secs most), .int .i64 (laterHi lo hi mn mx secs most)] 25)).cell 1
  have d10 := (K1.out.alloc (.cells #[.int .i64 (laterLo lo hi mn mx secs most), .int .i64 (laterHi lo hi mn mx secs most)] 25)).cell 0
  have d11 := (K1.out.alloc (.cells #[.int .i64 (laterLo lo hi mn mx secs most), .int .i64 (laterHi lo hi mn mx secs most)] 25)).cell 1
  simp at d00 d01 d10 d11
  have K9 := Lib.hid (Blk.new w1 25 #[.int .i64 (laterLo lo hi mn mx secs most), .int .i64 (laterHi lo hi mn mx secs most)])
  have z9 := K9.out.lt
  go_wp2_with fail
  refine (rlater_any _ _ _ _ _ _ _).mono ?_
  rintro e w2 ⟨rfl, hb2⟩
  have s2 := hb2.size
  have B2 := Lib.hid ((B1.out.alloc (by omega) (.cells #[.int .i64 (laterLo lo hi mn mx secs most), .int .i64 (laterHi lo hi mn mx secs most)] 25)).trans (hb2.mono (by omega)))
  have K9a := Lib.hid ((K9.out.grow hb2).alloc (.cells #[.int .i64 (laterLo lo hi mn mx secs most), .int .i64 (laterHi lo hi mn mx secs most)] 25))
  have K8 := Lib.hid (Blk.new w2 25 #[.int .i64 (laterLo lo hi mn mx secs most), .int .i64 (laterHi lo hi mn mx secs most)])
  have z8 := K8.out.lt
  have e0 := K9a.out.cell 0
  have e1 := K9a.out.cell 1
  have e2 := K8.out.cell 0
  have e3 := K8.out.cell 1
  simp at e0 e1 e2 e3
  clear hb2
  go_wp2_with fail
  refine (awake_any _).mono ?_
  rintro e w3 ⟨rfl, hb3⟩
  have B3 := Lib.hid ((B2.out.alloc (by omega) (.cells #[.int .i64 (laterLo lo hi mn mx secs most), .int .i64 (laterHi lo hi mn mx secs most)] 25)).trans (hb3.mono (by omega)))
  clear hb3
  go_wp2
  go_ret
  exact ⟨rfl, B3.out⟩

theorem own : ownKnob Try.prog.godebug = none := by kernel_rfl
theorem laidOut : laidOutB Try.prog = true := by kernel_rfl
set_option maxRecDepth 100000 in
theorem lifted (os : Os) (started : os.Started) (H : Type) (enc : TypeId × Value → H) :
    ReturnsInHanded {} Try.checked os 5 .any (Rows.fillLatersSpec.pre6 enc Try.prog Try.f5 Rows.fillLatersRow.domain false) (Rows.fillLatersSpec.post enc Try.prog Try.f5 false true false false) := by
  refine returnsInHanded_of_change (C := Try.checked) own started (by kernel_rfl) Try.func5
    (ChangeSpec.witness6 (enc := enc) (C := Try.checked) false ⟨#[], #[.agg #[.int .i64 0, .int .i64 0], .agg #[.int .i64 0, .int .i64 0], .int .i64 0, .int .i64 0], []⟩ 8 (by kernel_rfl) (by kernel_rfl) (by kernel_rfl) (by kernel_rfl)) ?_
  intro W base args ds gs before hval0 hW hcnd _
  have hval : ∀ (j : Nat) t v, Try.f5.params[j]? = some t → args[j]? = some v → Value.okWide Try.prog W .any base t v := hval0
  have hW' := hW
  obtain ⟨p, q, hA0, hV, rfl, hfz, hnd⟩ := hW
  have hA : DataW.TrodAll enc Try.prog W 0 (fun _ => true) true Try.f5.params.toList args.toList ds p := hA0
  rw [Try.params5] at hA hval
  obtain ⟨v0, vs0, d0, ds0, p0, q0, hargs, rfl, rfl, h0, r0⟩ := trodAll_cons hA
  obtain ⟨v1, vs1, d1, ds1, p1, q1, rfl, rfl, rfl, h1, r1⟩ := trodAll_cons r0
  obtain ⟨v2, vs2, d2, ds2, p2, q2, rfl, rfl, rfl, h2, r2⟩ := trodAll_cons r1
  obtain ⟨v3, vs3, d3, ds3, p3, q3, rfl, rfl, rfl, h3, r3⟩ := trodAll_cons r2
  obtain ⟨rfl, rfl, rfl⟩ := trodAll_nil r3
  obtain rfl : args = #[v0, v1, v2, v3] := by cases args; simp_all
  obtain ⟨rfl, rfl⟩ := trodVars_none hV
  have k0 := h0
  have lt0 : ∀ x ∈ p0, x.block < W.heap.size := by obtain ⟨m, hm⟩ := k0; exact DataW.trod_lt m _ _ _ hm
  have O0 := open_span W (hval 0 25 v0 rfl rfl) h0
  have k1 := h1
  have lt1 : ∀ x ∈ p1, x.block < W.heap.size := by obtain ⟨m, hm⟩ := k1; exact DataW.trod_lt m _ _ _ hm
  have O1 := open_rate W (hval 1 37 v1 rfl rfl) h1
  have k2 := h2
  have lt2 : ∀ x ∈ p2, x.block < W.heap.size := by obtain ⟨m, hm⟩ := k2; exact DataW.trod_lt m _ _ _ hm
  have O2 := open_int W (hval 2 3 v2 rfl rfl) h2
  have k3 := h3
  have lt3 : ∀ x ∈ p3, x.block < W.heap.size := by obtain ⟨m, hm⟩ := k3; exact DataW.trod_lt m _ _ _ hm
  have O3 := open_int W (hval 3 3 v3 rfl rfl) h3
  clear hA0 hval0
  refine (walk W v0 O0 v1 O1 v2 O2 v3 O3).mono fun e W' ⟨he, bel⟩ => ?_
  subst he
  exact ⟨_, rfl, _, _, _, [], _, [], hW', trodAll_mk1 (shut_bool Try.underlying4 _), (trodAll_cons_mk (Below.trod laidOut (by kernel_rfl) (of_decide_eq_true (by kernel_rfl)) k0 bel lt0) (trodAll_cons_mk (Below.trod laidOut (by kernel_rfl) (of_decide_eq_true (by kernel_rfl)) k1 bel lt1) (trodAll_cons_mk (Below.trod laidOut (by kernel_rfl) (of_decide_eq_true (by kernel_rfl)) k2 bel lt2) (trodAll_cons_mk (Below.trod laidOut (by kernel_rfl) (of_decide_eq_true (by kernel_rfl)) k3 bel lt3) trodAll_mk0)))), rfl, bel.frame _, fun h => by cases h⟩
theorem over : Rows.fillLatersRow.holds Try.pinned (OpenSpec.ofChange Rows.fillLatersSpec) :=
  OpenClaim.holds_of_wide 5 Try.f5 rfl rfl rfl rfl rfl rfl rfl ⟨rfl, rfl, rfl, rfl, rfl⟩ rfl rfl rfl rfl rfl (by kernel_rfl) Try.func5 (by kernel_rfl)
    (of_decide_eq_true (by kernel_rfl)) (by unfold Func.isWrapper; first | (rw [if_pos (by decide +kernel)]; kernel_rfl) | (rw [if_neg (by decide +kernel)]; exact ⟨rfl, rfl⟩))
    (fun os started H enc _ => lifted os started H enc)
theorem proved : Rows.FillLatersSaid := over
#print axioms proved

end Go.Proofs.Ytopdcngplcoejaa.fillLaters
