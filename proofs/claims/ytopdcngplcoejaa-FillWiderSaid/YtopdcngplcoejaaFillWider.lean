/- FillWider: with a greater error, or later, the interval of levels is not smaller. No condition. -/
import Derived.Test.YtopdcngplcoejaaAwake16
import Derived.Test.YtopdcngplcoejaaWide
import Derived.Test.YtopdcngplcoejaaOpenS
namespace Go.Proofs.Ytopdcngplcoejaa.fillWider
open Go.ChangeShapes Go.WideShapes Go.ChangeAt Go.RowKit
set_option linter.unusedVariables false

theorem level_wider {em fu er dr raw days er' days' : Int} (HW : ∀ er' days' : Int, er ≤ er' → er' ≤ 1000 → days ≤ days' → days' ≤ 36524 →
    lvE em fu er' dr raw days' = 0 ∧ lvLo em fu er' dr raw days' ≤ lvLo em fu er dr raw days ∧ lvHi em fu er dr raw days ≤ lvHi em fu er' dr raw days')
    (h1 : er ≤ er') (h2 : er' ≤ 1000) (h3 : days ≤ days') (h4 : days' ≤ 36524) (w : World) :
    Calls Try.prog 11 #[.agg #[.int .i64 em, .int .i64 fu, .int .i64 er', .int .i64 dr], .int .i64 raw, .int .i64 days'] w fun e w' =>
      ∃ x y : Int, x ≤ lvLo em fu er dr raw days ∧ lvHi em fu er dr raw days ≤ y ∧ e = .returned (.tuple #[.agg #[.int .i64 x, .int .i64 y], .int .i64 0]) ∧ Below w.heap.size w w' := by
  obtain ⟨g1, g2, g3⟩ := HW er' days' h1 h2 h3 h4
  exact (level_any _ _ _ _ _ _ _).mono fun e w' ⟨he, hb⟩ => ⟨_, _, g2, g3, by rw [he, g1], hb⟩
set_option maxRecDepth 100000 in
set_option maxHeartbeats 1600000 in
theorem walk (w : World) (v0 : Value) (hv0 : IsInt4 v0) (v1 : Value) (hv1 : IsInt .i64 v1) (v2 : Value) (hv2 : IsInt .i64 v2) (v3 : Value) (hv3 : IsInt .u16 v3) (v4 : Value) (hv4 : IsInt .u16 v4) :
    Calls Try.prog 7 #[v0, v1, v2, v3, v4] w fun e w' => e = .returned (.bool true) ∧ Below w.heap.size w w' := by
  obtain ⟨em, fu, er, dr, rfl, _, _, _, _⟩ := hv0
  obtain ⟨raw, rfl, _⟩ := hv1
  obtain ⟨days, rfl, _⟩ := hv2
  obtain ⟨more, rfl, hm⟩ := hv3
  obtain ⟨after, rfl, ha⟩ := hv4
  by_cases hE : lvE em fu er dr raw days = 0
  · have hq := lv_ok hE
    have hk := chk_in hq.1
    have hw := fun er' days' => wider (er' := er') (days' := days') hE
    obtain ⟨_, q1, q2, q3, q4, _, _⟩ := hq
    obtain ⟨k1, k2, k3, k4, k5, k6, k7⟩ := hk
    have HE := Lib.hid hE
    have HW := Lib.hid hw
    clear hE hw
    go_enter Try.func7, Try.ntmps7
    go_wp2_with fail
    have hb0 : Below w.heap.size w (w.alloc (.cells #[.int .i64 em, .int .i64 fu, .int .i64 er, .int .i64 dr] 23)) := by go_grown
    have k0 := Blk.new w 23 #[.int .i64 em, .int .i64 fu, .int .i64 er, .int .i64 dr]
    have z0 := k0.lt
    refine (level_any _ _ _ _ _ _ _).mono ?_
    rw [HE.out]
    rintro e w1 ⟨rfl, hb1⟩
    have s1 := hb1.size
    have B1 := Lib.hid (hb0.trans (hb1.mono (by omega)))
    have K0 := Lib.hid (k0.grow hb1)
    clear hb0 hb1 k0
    have K0a := Lib.hid (K0.out.alloc (.cells #[.int .i64 (lvLo em fu er dr raw days), .int .i64 (lvHi em fu er dr raw days)] 25))
    have c0 := K0a.out.cell 0
    have c1 := K0a.out.cell 1
    have c2 := K0a.out.cell 2
    have c3 := K0a.out.cell 3
    simp at c0 c1 c2 c3
    have L0 := K0a.out.lt
    have hmm : 0 ≤ more ∧ more ≤ 65535 := by
      have h0 : IntKind.u16.min = 0 := rfl
      have h1 : IntKind.u16.max = 65535 := rfl
      simpa [Lit.wf, h0, h1] using hm
    have hma : 0 ≤ after ∧ after ≤ 65535 := by
      have h0 : IntKind.u16.min = 0 := rfl
      have h1 : IntKind.u16.max = 65535 := rfl
      simpa [Lit.wf, h0, h1] using ha
    obtain ⟨m0, m1⟩ := hmm
    obtain ⟨a0, a1⟩ := hma
    clear hm ha
    have hd : ¬ (36524 < days) := by omega
    have d0 := (K0a.out.alloc (.cells #[.int .i64 em, .int .i64 fu, .int .i64 er, .int .i64 dr] 23)).cell 0
    have d1 := (K0a.out.alloc (.cells #[.int .i64 em, .int .i64 fu, .int .i64 er, .int .i64 dr] 23)).cell 1
    have d2 := (K0a.out.alloc (.cells #[.int .i64 em, .int .i64 fu, .int .i64 er, .int .i64 dr] 23)).cell 2
    have d3 := (K0a.out.alloc (.cells #[.int .i64 em, .int .i64 fu, .int .i64 er, .int .i64 dr] 23)).cell 3
    simp at d0 d1 d2 d3
    go_wp2_with fail
    all_goals
      refine (level_wider HW.out (by omega) (by omega) (by omega) (by omega) _).mono ?_
      rintro e w2 ⟨x, y, hx, hy, rfl, hb2⟩
      have s2 := hb2.size
      have B2 := Lib.hid (((B1.out.alloc (by first | omega | (simp; omega)) _).alloc (by first | omega | (simp; omega)) _).trans (hb2.mono (by first | omega | (simp; omega))))
      have hz2 : w.heap.size ≤ w2.heap.size := B2.out.size
      have KA := Lib.hid ((((Blk.new w1 25 #[.int .i64 (lvLo em fu er dr raw days), .int .i64 (lvHi em fu er dr raw days)]).alloc _).grow hb2).alloc (.cells #[.int .i64 x, .int .i64 y] 25))
      have KB := Lib.hid (Blk.new w2 25 #[.int .i64 x, .int .i64 y])
      have zA := KA.out.lt
      clear hb2 c0 c1 c2 c3 d0 d1 d2 d3
      have a0 := KA.out.cell 0
      have a1' := KA.out.cell 1
      have b0 := KB.out.cell 0
      have b1 := KB.out.cell 1
      simp at a0 a1' b0 b1
      go_wp2_with fail
      refine (awake_any _).mono ?_
      rintro e w3 ⟨rfl, hb3⟩
      have B3 := Lib.hid ((B2.out.alloc (by first | omega | (simp; omega)) (.cells #[.int .i64 x, .int .i64 y] 25)).trans (hb3.mono (by first | omega | (simp; omega))))
      clear hb3
      go_wp2
      go_ret
      exact ⟨rfl, B3.out⟩
  · have hne : (lvE em fu er dr raw days != 0) = true := by simpa using hE
    have HE := Lib.hid hE
    clear hE
    go_enter Try.func7, Try.ntmps7
    go_wp2_with fail
    have hb0 : Below w.heap.size w (w.alloc (.cells #[.int .i64 em, .int .i64 fu, .int .i64 er, .int .i64 dr] 23)) := by go_grown
    have z0 := (Blk.new w 23 #[.int .i64 em, .int .i64 fu, .int .i64 er, .int .i64 dr]).lt
    refine (level_any _ _ _ _ _ _ _).mono ?_
    rintro e w1 ⟨rfl, hb1⟩
    have s1 := hb1.size
    have z1 := (Blk.new w1 25 #[.int .i64 (lvLo em fu er dr raw days), .int .i64 (lvHi em fu er dr raw days)]).lt
    have B1 := Lib.hid (hb0.trans (hb1.mono (by omega)))
    clear hb0 hb1
    go_wp2_with fail
    refine (awake_any _).mono ?_
    rintro e w2 ⟨rfl, hb2⟩
    have B2 := Lib.hid ((B1.out.alloc (by omega) (.cells #[.int .i64 (lvLo em fu er dr raw days), .int .i64 (lvHi em fu er dr raw days)] 25)).trans (hb2.mono (by omega)))
    clear hb2
    go_wp2
    go_ret
    exact ⟨rfl, B2.out⟩

theorem own : ownKnob Try.prog.godebug = none := by kernel_rfl
theorem laidOut : laidOutB Try.prog = true := by kernel_rfl
set_option maxRecDepth 100000 in
theorem lifted (os : Os) (started : os.Started) (H : Type) (enc : TypeId × Value → H) :
    ReturnsInHanded {} Try.checked os 7 .any (Rows.fillWiderSpec.pre6 enc Try.prog Try.f7 Rows.fillWiderRow.domain false) (Rows.fillWiderSpec.post enc Try.prog Try.f7 false true false false) := by
  refine returnsInHanded_of_change (C := Try.checked) own started (by kernel_rfl) Try.func7
    (ChangeSpec.witness6 (enc := enc) (C := Try.checked) false ⟨#[], #[.agg #[.int .i64 0, .int .i64 0, .int .i64 0, .int .i64 0], .int .i64 0, .int .i64 0, .int .u16 0, .int .u16 0], []⟩ 8 (by kernel_rfl) (by kernel_rfl) (by kernel_rfl) (by kernel_rfl)) ?_
  intro W base args ds gs before hval0 hW hcnd _
  have hval : ∀ (j : Nat) t v, Try.f7.params[j]? = some t → args[j]? = some v → Value.okWide Try.prog W .any base t v := hval0
  have hW' := hW
  obtain ⟨p, q, hA0, hV, rfl, hfz, hnd⟩ := hW
  have hA : DataW.TrodAll enc Try.prog W 0 (fun _ => true) true Try.f7.params.toList args.toList ds p := hA0
  rw [Try.params7] at hA hval
  obtain ⟨v0, vs0, d0, ds0, p0, q0, hargs, rfl, rfl, h0, r0⟩ := trodAll_cons hA
  obtain ⟨v1, vs1, d1, ds1, p1, q1, rfl, rfl, rfl, h1, r1⟩ := trodAll_cons r0
  obtain ⟨v2, vs2, d2, ds2, p2, q2, rfl, rfl, rfl, h2, r2⟩ := trodAll_cons r1
  obtain ⟨v3, vs3, d3, ds3, p3, q3, rfl, rfl, rfl, h3, r3⟩ := trodAll_cons r2
  obtain ⟨v4, vs4, d4, ds4, p4, q4, rfl, rfl, rfl, h4, r4⟩ := trodAll_cons r3
  obtain ⟨rfl, rfl, rfl⟩ := trodAll_nil r4
  obtain rfl : args = #[v0, v1, v2, v3, v4] := by cases args; simp_all
  obtain ⟨rfl, rfl⟩ := trodVars_none hV
  have k0 := h0
  have lt0 : ∀ x ∈ p0, x.block < W.heap.size := by obtain ⟨m, hm⟩ := k0; exact DataW.trod_lt m _ _ _ hm
  have O0 := open_sensor W (hval 0 23 v0 rfl rfl) h0
  have k1 := h1
  have lt1 : ∀ x ∈ p1, x.block < W.heap.size := by obtain ⟨m, hm⟩ := k1; exact DataW.trod_lt m _ _ _ hm
  have O1 := open_int W (hval 1 3 v1 rfl rfl) h1
  have k2 := h2
  have lt2 : ∀ x ∈ p2, x.block < W.heap.size := by obtain ⟨m, hm⟩ := k2; exact DataW.trod_lt m _ _ _ hm
  have O2 := open_int W (hval 2 3 v2 rfl rfl) h2
  have k3 := h3
  have lt3 : ∀ x ∈ p3, x.block < W.heap.size := by obtain ⟨m, hm⟩ := k3; exact DataW.trod_lt m _ _ _ hm
  have O3 := open_u16 W (hval 3 43 v3 rfl rfl) h3
  have k4 := h4
  have lt4 : ∀ x ∈ p4, x.block < W.heap.size := by obtain ⟨m, hm⟩ := k4; exact DataW.trod_lt m _ _ _ hm
  have O4 := open_u16 W (hval 4 43 v4 rfl rfl) h4
  clear hA0 hval0
  refine (walk W v0 O0 v1 O1 v2 O2 v3 O3 v4 O4).mono fun e W' ⟨he, bel⟩ => ?_
  subst he
  exact ⟨_, rfl, _, _, _, [], _, [], hW', trodAll_mk1 (shut_bool Try.underlying4 _), (trodAll_cons_mk (Below.trod laidOut (by kernel_rfl) (of_decide_eq_true (by kernel_rfl)) k0 bel lt0) (trodAll_cons_mk (Below.trod laidOut (by kernel_rfl) (of_decide_eq_true (by kernel_rfl)) k1 bel lt1) (trodAll_cons_mk (Below.trod laidOut (by kernel_rfl) (of_decide_eq_true (by kernel_rfl)) k2 bel lt2) (trodAll_cons_mk (Below.trod laidOut (by kernel_rfl) (of_decide_eq_true (by kernel_rfl)) k3 bel lt3) (trodAll_cons_mk (Below.trod laidOut (by kernel_rfl) (of_decide_eq_true (by kernel_rfl)) k4 bel lt4) trodAll_mk0))))), rfl, bel.frame _, fun h => by cases h⟩
theorem over : Rows.fillWiderRow.holds Try.pinned (OpenSpec.ofChange Rows.fillWiderSpec) :=
  OpenClaim.holds_of_wide 7 Try.f7 rfl rfl rfl rfl rfl rfl rfl ⟨rfl, rfl, rfl, rfl, rfl⟩ rfl rfl rfl rfl rfl (by kernel_rfl) Try.func7 (by kernel_rfl)
    (of_decide_eq_true (by kernel_rfl)) (by unfold Func.isWrapper; first | (rw [if_pos (by decide +kernel)]; kernel_rfl) | (rw [if_neg (by decide +kernel)]; exact ⟨rfl, rfl⟩))
    (fun os started H enc _ => lifted os started H enc)
theorem proved : Rows.FillWiderSaid := over
#print axioms proved

end Go.Proofs.Ytopdcngplcoejaa.fillWider
