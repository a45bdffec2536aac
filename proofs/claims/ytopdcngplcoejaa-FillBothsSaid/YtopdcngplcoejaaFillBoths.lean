/- FillBoths: what any two estimates have in common, in any order of them, is what the reference says; the fixed examples hold. No condition. -/
import Derived.Test.YtopdcngplcoejaaAwake16
import Derived.Test.YtopdcngplcoejaaOpenS
namespace Go.Proofs.Ytopdcngplcoejaa.fillBoths
open Go.ChangeShapes Go.WideShapes Go.ChangeAt Go.RowKit
set_option linter.unusedVariables false

theorem bothBad_swap (a b c d : Int) : bothBad c d a b = bothBad a b c d := by
  unfold bothBad; exact Bool.or_comm _ _
theorem bothE_swap (a b c d : Int) : bothE c d a b = bothE a b c d := by
  unfold bothE; rw [bothBad_swap, Int.min_comm, Int.max_comm]
theorem bothLo_swap (a b c d : Int) : bothLo c d a b = bothLo a b c d := by
  unfold bothLo; rw [bothE_swap, Int.max_comm]
theorem bothHi_swap (a b c d : Int) : bothHi c d a b = bothHi a b c d := by
  unfold bothHi; rw [bothE_swap, Int.min_comm]
set_option maxRecDepth 100000 in
set_option maxHeartbeats 1600000 in
theorem walk (w : World) (v0 : Value) (hv0 : IsInt2 .i64 v0) (v1 : Value) (hv1 : IsInt2 .i64 v1) :
    Calls Try.prog 10 #[v0, v1] w fun e w' => e = .returned (.bool true) ∧ Below w.heap.size w w' := by
  obtain ⟨a, b, rfl, _, _⟩ := hv0
  obtain ⟨c, d, rfl, _, _⟩ := hv1
  go_enter Try.func10, Try.ntmps10
  go_wp2_with fail
  have hb0 : Below w.heap.size w ((w.alloc (.cells #[.int .i64 a, .int .i64 b] 25)).alloc (.cells #[.int .i64 c, .int .i64 d] 25)) := by go_grown
  have k0 := ((Blk.new w 25 #[.int .i64 a, .int .i64 b]).alloc (.cells #[.int .i64 c, .int .i64 d] 25))
  have k1 := (Blk.new1 w (.cells #[.int .i64 a, .int .i64 b] 25) 25 #[.int .i64 c, .int .i64 d])
  have z0 := k1.lt
  refine (both_any _ _ _ _ _).mono ?_
  rintro e w1 ⟨rfl, hb1⟩
  have s1 := hb1.size
  have B1 := Lib.hid (hb0.trans (hb1.mono (by omega)))
  have K0 := Lib.hid (k0.grow hb1)
  have K1 := Lib.hid (k1.grow hb1)
  clear hb0 hb1 k0 k1
  have c00 := (K0.out).cell 0
  have c01 := (K0.out).cell 1
  have c10 := (K1.out).cell 0
  have c11 := (K1.out).cell 1
  simp at c00 c01 c10 c11
  have d00 := (K0.out.alloc (.cells #[.int .i64 (bothLo a b c d), .int .i64 (bothHi a b c d)] 25)).cell 0
  have d01 := (K0.out.alloc (.cells #[.int .i64 (bothLo a b c d), .int .i64 (bothHi a b c d)] 25)).cell 1
  have d10 := (K1.out.alloc (.cells #[.int .i64 (bothLo a b c d), .int .i64 (bothHi a b c d)] 25)).cell 0
  have d11 := (K1.out.alloc (.cells #[.int .i64 (bothLo a b c d), .int .i64 (bothHi a b c d)] 25)).cell 1
  simp at d00 d01 d10 d11
  have K9 := Lib.hid (Blk.new w1 25 #[.int .i64 (bothLo a b c d), .int .i64 (bothHi a b c d)])
  have z9 := K9.out.lt
  go_wp2_with fail
  refine (rboth_any _ _ _ _ _).mono ?_
  rintro e w2 ⟨rfl, hb2⟩
  have s2 := hb2.size
  have B2 := Lib.hid ((B1.out.alloc (by omega) (.cells #[.int .i64 (bothLo a b c d), .int .i64 (bothHi a b c d)] 25)).trans (hb2.mono (by omega)))
  have K9a := Lib.hid (K9.out.grow hb2)
  have K0a := Lib.hid ((K0.out.alloc (.cells #[.int .i64 (bothLo a b c d), .int .i64 (bothHi a b c d)] 25)).grow hb2)
  have K1a := Lib.hid ((K1.out.alloc (.cells #[.int .i64 (bothLo a b c d), .int .i64 (bothHi a b c d)] 25)).grow hb2)
  clear hb2 K0 K1 c00 c01 c10 c11 d00 d01 d10 d11
  have c00 := (K0a.out).cell 0
  have c01 := (K0a.out).cell 1
  have c10 := (K1a.out).cell 0
  have c11 := (K1a.out).cell 1
  simp at c00 c01 c10 c11
  have d00 := (K0a.out.alloc (.cells #[.int .i64 (bothLo a b c d), .int .i64 (bothHi a b c d)] 25)).cell 0
  have d01 := (K0a.out.alloc (.cells #[.int .i64 (bothLo a b c d), .int .i64 (bothHi a b c d)] 25)).cell 1
  have d10 := (K1a.out.alloc (.cells #[.int .i64 (bothLo a b c d), .int .i64 (bothHi a b c d)] 25)).cell 0
  have d11 := (K1a.out.alloc (.cells #[.int .i64 (bothLo a b c d), .int .i64 (bothHi a b c d)] 25)).cell 1
  simp at d00 d01 d10 d11
  have K8 := Lib.hid (Blk.new w2 25 #[.int .i64 (bothLo a b c d), .int .i64 (bothHi a b c d)])
  have z8 := K8.out.lt
  go_wp2_with fail
  refine (both_any _ _ _ _ _).mono ?_
  rw [bothLo_swap, bothHi_swap, bothE_swap]
  rintro e w3 ⟨rfl, hb3⟩
  have s3 := hb3.size
  have B3 := Lib.hid ((B2.out.alloc (by omega) (.cells #[.int .i64 (bothLo a b c d), .int .i64 (bothHi a b c d)] 25)).trans (hb3.mono (by omega)))
  have K9b := Lib.hid (((K9a.out.alloc (.cells #[.int .i64 (bothLo a b c d), .int .i64 (bothHi a b c d)] 25)).grow hb3).alloc (.cells #[.int .i64 (bothLo a b c d), .int .i64 (bothHi a b c d)] 25))
  have K8b := Lib.hid ((K8.out.grow hb3).alloc (.cells #[.int .i64 (bothLo a b c d), .int .i64 (bothHi a b c d)] 25))
  have K7 := Lib.hid (Blk.new w3 25 #[.int .i64 (bothLo a b c d), .int .i64 (bothHi a b c d)])
  have z7 := K7.out.lt
  clear hb3 c00 c01 c10 c11 d00 d01 d10 d11
  have e00 := K9b.out.cell 0
  have e01 := K9b.out.cell 1
  have e10 := K8b.out.cell 0
  have e11 := K8b.out.cell 1
  have e20 := K7.out.cell 0
  have e21 := K7.out.cell 1
  simp at e00 e01 e10 e11 e20 e21
  clear K0a K1a
  go_wp2_with fail
  refine (awake_any _).mono ?_
  rintro e w4 ⟨rfl, hb4⟩
  have B4 := Lib.hid ((B3.out.alloc (by omega) (.cells #[.int .i64 (bothLo a b c d), .int .i64 (bothHi a b c d)] 25)).trans (hb4.mono (by omega)))
  clear hb4
  go_wp2
  go_ret
  exact ⟨rfl, B4.out⟩

theorem own : ownKnob Try.prog.godebug = none := by kernel_rfl
theorem laidOut : laidOutB Try.prog = true := by kernel_rfl
set_option maxRecDepth 100000 in
theorem lifted (os : Os) (started : os.Started) (H : Type) (enc : TypeId × Value → H) :
    ReturnsInHanded {} Try.checked os 10 .any (Rows.fillBothsSpec.pre6 enc Try.prog Try.f10 Rows.fillBothsRow.domain false) (Rows.fillBothsSpec.post enc Try.prog Try.f10 false true false false) := by
  refine returnsInHanded_of_change (C := Try.checked) own started (by kernel_rfl) Try.func10
    (ChangeSpec.witness6 (enc := enc) (C := Try.checked) false ⟨#[], #[.agg #[.int .i64 0, .int .i64 0], .agg #[.int .i64 0, .int .i64 0]], []⟩ 8 (by kernel_rfl) (by kernel_rfl) (by kernel_rfl) (by kernel_rfl)) ?_
  intro W base args ds gs before hval0 hW hcnd _
  have hval : ∀ (j : Nat) t v, Try.f10.params[j]? = some t → args[j]? = some v → Value.okWide Try.prog W .any base t v := hval0
  have hW' := hW
  obtain ⟨p, q, hA0, hV, rfl, hfz, hnd⟩ := hW
  have hA : DataW.TrodAll enc Try.prog W 0 (fun _ => true) true Try.f10.params.toList args.toList ds p := hA0
  rw [Try.params10] at hA hval
  obtain ⟨v0, vs0, d0, ds0, p0, q0, hargs, rfl, rfl, h0, r0⟩ := trodAll_cons hA
  obtain ⟨v1, vs1, d1, ds1, p1, q1, rfl, rfl, rfl, h1, r1⟩ := trodAll_cons r0
  obtain ⟨rfl, rfl, rfl⟩ := trodAll_nil r1
  obtain rfl : args = #[v0, v1] := by cases args; simp_all
  obtain ⟨rfl, rfl⟩ := trodVars_none hV
  have k0 := h0
  have lt0 : ∀ x ∈ p0, x.block < W.heap.size := by obtain ⟨m, hm⟩ := k0; exact DataW.trod_lt m _ _ _ hm
  have O0 := open_span W (hval 0 25 v0 rfl rfl) h0
  have k1 := h1
  have lt1 : ∀ x ∈ p1, x.block < W.heap.size := by obtain ⟨m, hm⟩ := k1; exact DataW.trod_lt m _ _ _ hm
  have O1 := open_span W (hval 1 25 v1 rfl rfl) h1
  clear hA0 hval0
  refine (walk W v0 O0 v1 O1).mono fun e W' ⟨he, bel⟩ => ?_
  subst he
  exact ⟨_, rfl, _, _, _, [], _, [], hW', trodAll_mk1 (shut_bool Try.underlying4 _), (trodAll_cons_mk (Below.trod laidOut (by kernel_rfl) (of_decide_eq_true (by kernel_rfl)) k0 bel lt0) (trodAll_cons_mk (Below.trod laidOut (by kernel_rfl) (of_decide_eq_true (by kernel_rfl)) k1 bel lt1) trodAll_mk0)), rfl, bel.frame _, fun h => by cases h⟩
theorem over : Rows.fillBothsRow.holds Try.pinned (OpenSpec.ofChange Rows.fillBothsSpec) :=
  OpenClaim.holds_of_wide 10 Try.f10 rfl rfl rfl rfl rfl rfl rfl ⟨rfl, rfl, rfl, rfl, rfl⟩ rfl rfl rfl rfl rfl (by kernel_rfl) Try.func10 (by kernel_rfl)
    (of_decide_eq_true (by kernel_rfl)) (by unfold Func.isWrapper; first | (rw [if_pos (by decide +kernel)]; kernel_rfl) | (rw [if_neg (by decide +kernel)]; exact ⟨rfl, rfl⟩))
    (fun os started H enc _ => lifted os started H enc)
theorem proved : Rows.FillBothsSaid := over
#print axioms proved

end Go.Proofs.Ytopdcngplcoejaa.fillBoths
