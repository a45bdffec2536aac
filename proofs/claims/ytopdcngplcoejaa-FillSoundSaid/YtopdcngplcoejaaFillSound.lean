/- FillSound: the true level lies in the interval for every reading within the error of the sensor, and every mass whose level lies in it lies in the interval of masses; the fixed examples hold. No condition. -/
import Derived.Test.YtopdcngplcoejaaAwake16
import Derived.Test.YtopdcngplcoejaaSound
import Derived.Deep.DeepCutAuto
import Derived.Deep.QuietTactic
import Derived.BigQuiet
import Derived.Test.YtopdcngplcoejaaOpenS
namespace Go.Proofs.Ytopdcngplcoejaa.fillSound
open Go.ChangeShapes Go.WideShapes Go.ChangeAt Go.RowKit
set_option linter.unusedVariables false

set_option maxRecDepth 100000 in
set_option maxHeartbeats 3200000 in
theorem walk (w : World) (v0 : Value) (hv0 : IsInt4 v0) (v1 : Value) (hv1 : IsInt2 .u32 v1) (v2 : Value) (hv2 : IsInt .i64 v2) (v3 : Value) (hv3 : IsCont v3) (v4 : Value) (hv4 : IsInt .i64 v4) :
    Calls Try.prog 9 #[v0, v1, v2, v3, v4] w fun e w' => e = .returned (.bool true) ∧ Below w.heap.size w w' := by
  obtain ⟨em, fu, er, dr, rfl, _, _, _, _⟩ := hv0
  obtain ⟨above, off, rfl, ha, ho⟩ := hv1
  obtain ⟨days, rfl, _⟩ := hv2
  obtain ⟨id, kind, lit, gr, node, rfl, _, _, _, _, _⟩ := hv3
  obtain ⟨x, rfl, _⟩ := hv4
  have hab : 0 ≤ above ∧ above ≤ 4294967295 := by
    have h0 : IntKind.u32.min = 0 := rfl
    have h1 : IntKind.u32.max = 4294967295 := rfl
    simpa [Lit.wf, h0, h1] using ha
  have hof : 0 ≤ off ∧ off ≤ 4294967295 := by
    have h0 : IntKind.u32.min = 0 := rfl
    have h1 : IntKind.u32.max = 4294967295 := rfl
    simpa [Lit.wf, h0, h1] using ho
  clear ha ho
  obtain ⟨a0, a1⟩ := hab
  obtain ⟨o0, o1⟩ := hof
  rcases chk_01 em fu er dr with hc | hc
  · obtain ⟨k1, k2, k3, k4, k5, k6, k7⟩ := chk_in hc
    have HC := Lib.hid hc
    clear hc
    by_cases hd : days < 0
    · go_enter Try.func9, Try.ntmps9
      go_wp2_with fail
      have k0 := ((Blk.new w 23 #[.int .i64 em, .int .i64 fu, .int .i64 er, .int .i64 dr]).alloc (.cells #[.int .u32 above, .int .u32 off] 47)).alloc (.cells #[.string id, .int .i64 kind, .int .i64 lit, .int .i64 gr, .int .i64 node] 33)
      have k1 := (Blk.new1 w (.cells #[.int .i64 em, .int .i64 fu, .int .i64 er, .int .i64 dr] 23) 47 #[.int .u32 above, .int .u32 off]).alloc (.cells #[.string id, .int .i64 kind, .int .i64 lit, .int .i64 gr, .int .i64 node] 33)
      have k2 := Blk.new2 w (.cells #[.int .i64 em, .int .i64 fu, .int .i64 er, .int .i64 dr] 23) (.cells #[.int .u32 above, .int .u32 off] 47) 33 #[.string id, .int .i64 kind, .int .i64 lit, .int .i64 gr, .int .i64 node]
      obtain ⟨w0, hw0, hb0⟩ : ∃ w0, ((w.alloc (.cells #[.int .i64 em, .int .i64 fu, .int .i64 er, .int .i64 dr] 23)).alloc (.cells #[.int .u32 above, .int .u32 off] 47)).alloc (.cells #[.string id, .int .i64 kind, .int .i64 lit, .int .i64 gr, .int .i64 node] 33) = w0 ∧ Below w.heap.size w w0 := ⟨_, rfl, by go_grown⟩
      rw [hw0] at k0 k1 k2 ⊢
      clear hw0
      refine (check_any _ _ _ _ _).mono ?_
      rw [HC.out]
      rintro e w1 ⟨rfl, rfl⟩
      have k0a := k0.alloc (.cells #[.int .i64 em, .int .i64 fu, .int .i64 er, .int .i64 dr] 23)
      have k1a := k1.alloc (.cells #[.int .i64 em, .int .i64 fu, .int .i64 er, .int .i64 dr] 23)
      have k2a := k2.alloc (.cells #[.int .i64 em, .int .i64 fu, .int .i64 er, .int .i64 dr] 23)
      have z2 := k2.lt
      obtain ⟨w1, hw1, hb1⟩ : ∃ w1, w0.alloc (.cells #[.int .i64 em, .int .i64 fu, .int .i64 er, .int .i64 dr] 23) = w1 ∧ Below w.heap.size w w1 := ⟨_, rfl, hb0.alloc hb0.size _⟩
      rw [hw1] at k0a k1a k2a ⊢
      have s0 := k0a.cell 0
      have s1 := k0a.cell 1
      have s2 := k0a.cell 2
      have s3 := k0a.cell 3
      have t0 := k1a.cell 0
      have t1 := k1a.cell 1
      simp at s0 s1 s2 s3 t0 t1
      have K0 := Lib.hid k0a
      have K2 := Lib.hid k2a
      have HB1 := Lib.hid hb1
      clear hw1 k0 k1 k2 k0a k1a k2a hb0 hb1
      go_wp2_with fail
      refine (awake_any _).mono ?_
      rintro e w9 ⟨rfl, hb9⟩
      have HB9 := Lib.hid (HB1.out.trans (hb9.mono HB1.out.size))
      clear hb9
      go_wp2
      go_ret
      exact ⟨rfl, HB9.out⟩
    by_cases hd2 : 36524 < days
    · go_enter Try.func9, Try.ntmps9
      go_wp2_with fail
      have k0 := ((Blk.new w 23 #[.int .i64 em, .int .i64 fu, .int .i64 er, .int .i64 dr]).alloc (.cells #[.int .u32 above, .int .u32 off] 47)).alloc (.cells #[.string id, .int .i64 kind, .int .i64 lit, .int .i64 gr, .int .i64 node] 33)
      have k1 := (Blk.new1 w (.cells #[.int .i64 em, .int .i64 fu, .int .i64 er, .int .i64 dr] 23) 47 #[.int .u32 above, .int .u32 off]).alloc (.cells #[.string id, .int .i64 kind, .int .i64 lit, .int .i64 gr, .int .i64 node] 33)
      have k2 := Blk.new2 w (.cells #[.int .i64 em, .int .i64 fu, .int .i64 er, .int .i64 dr] 23) (.cells #[.int .u32 above, .int .u32 off] 47) 33 #[.string id, .int .i64 kind, .int .i64 lit, .int .i64 gr, .int .i64 node]
      obtain ⟨w0, hw0, hb0⟩ : ∃ w0, ((w.alloc (.cells #[.int .i64 em, .int .i64 fu, .int .i64 er, .int .i64 dr] 23)).alloc (.cells #[.int .u32 above, .int .u32 off] 47)).alloc (.cells #[.string id, .int .i64 kind, .int .i64 lit, .int .i64 gr, .int .i64 node] 33) = w0 ∧ Below w.heap.size w w0 := ⟨_, rfl, by go_grown⟩
      rw [hw0] at k0 k1 k2 ⊢
      clear hw0
      refine (check_any _ _ _ _ _).mono ?_
      rw [HC.out]
      rintro e w1 ⟨rfl, rfl⟩
      have k0a := k0.alloc (.cells #[.int .i64 em, .int .i64 fu, .int .i64 er, .int .i64 dr] 23)
      have k1a := k1.alloc (.cells #[.int .i64 em, .int .i64 fu, .int .i64 er, .int .i64 dr] 23)
      have k2a := k2.alloc (.cells #[.int .i64 em, .int .i64 fu, .int .i64 er, .int .i64 dr] 23)
      have z2 := k2.lt
      obtain ⟨w1, hw1, hb1⟩ : ∃ w1, w0.alloc (.cells #[.int .i64 em, .int .i64 fu, .int .i64 er, .int .i64 dr] 23) = w1 ∧ Below w.heap.size w w1 := ⟨_, rfl, hb0.alloc hb0.size _⟩
      rw [hw1] at k0a k1a k2a ⊢
      have s0 := k0a.cell 0
      have s1 := k0a.cell 1
      have s2 := k0a.cell 2
      have s3 := k0a.cell 3
      have t0 := k1a.cell 0
      have t1 := k1a.cell 1
      simp at s0 s1 s2 s3 t0 t1
      have K0 := Lib.hid k0a
      have K2 := Lib.hid k2a
      have HB1 := Lib.hid hb1
      clear hw1 k0 k1 k2 k0a k1a k2a hb0 hb1
      go_wp2_with fail
      refine (awake_any _).mono ?_
      rintro e w9 ⟨rfl, hb9⟩
      have HB9 := Lib.hid (HB1.out.trans (hb9.mono HB1.out.size))
      clear hb9
      go_wp2
      go_ret
      exact ⟨rfl, HB9.out⟩
    have p0 : 0 ≤ dr * days := Int.mul_nonneg k6 (by omega)
    have p1 : dr * days ≤ 3652400 := by
      have := Int.mul_le_mul k7 (show days ≤ 36524 by omega) (by omega) (by omega)
      omega
    go_enter Try.func9, Try.ntmps9
    go_wp2_with fail
    have k0 := ((Blk.new w 23 #[.int .i64 em, .int .i64 fu, .int .i64 er, .int .i64 dr]).alloc (.cells #[.int .u32 above, .int .u32 off] 47)).alloc (.cells #[.string id, .int .i64 kind, .int .i64 lit, .int .i64 gr, .int .i64 node] 33)
    have k1 := (Blk.new1 w (.cells #[.int .i64 em, .int .i64 fu, .int .i64 er, .int .i64 dr] 23) 47 #[.int .u32 above, .int .u32 off]).alloc (.cells #[.string id, .int .i64 kind, .int .i64 lit, .int .i64 gr, .int .i64 node] 33)
    have k2 := Blk.new2 w (.cells #[.int .i64 em, .int .i64 fu, .int .i64 er, .int .i64 dr] 23) (.cells #[.int .u32 above, .int .u32 off] 47) 33 #[.string id, .int .i64 kind, .int .i64 lit, .int .i64 gr, .int .i64 node]
    obtain ⟨w0, hw0, hb0⟩ : ∃ w0, ((w.alloc (.cells #[.int .i64 em, .int .i64 fu, .int .i64 er, .int .i64 dr] 23)).alloc (.cells #[.int .u32 above, .int .u32 off] 47)).alloc (.cells #[.string id, .int .i64 kind, .int .i64 lit, .int .i64 gr, .int .i64 node] 33) = w0 ∧ Below w.heap.size w w0 := ⟨_, rfl, by go_grown⟩
    rw [hw0] at k0 k1 k2 ⊢
    clear hw0
    refine (check_any _ _ _ _ _).mono ?_
    rw [HC.out]
    rintro e w1 ⟨rfl, rfl⟩
    have k0a := k0.alloc (.cells #[.int .i64 em, .int .i64 fu, .int .i64 er, .int .i64 dr] 23)
    have k1a := k1.alloc (.cells #[.int .i64 em, .int .i64 fu, .int .i64 er, .int .i64 dr] 23)
    have k2a := k2.alloc (.cells #[.int .i64 em, .int .i64 fu, .int .i64 er, .int .i64 dr] 23)
    have z2 := k2.lt
    obtain ⟨w1, hw1, hb1⟩ : ∃ w1, w0.alloc (.cells #[.int .i64 em, .int .i64 fu, .int .i64 er, .int .i64 dr] 23) = w1 ∧ Below w.heap.size w w1 := ⟨_, rfl, hb0.alloc hb0.size _⟩
    rw [hw1] at k0a k1a k2a ⊢
    have s0 := k0a.cell 0
    have s1 := k0a.cell 1
    have s2 := k0a.cell 2
    have s3 := k0a.cell 3
    have t0 := k1a.cell 0
    have t1 := k1a.cell 1
    simp at s0 s1 s2 s3 t0 t1
    have K0 := Lib.hid k0a
    have K2 := Lib.hid k2a
    have HB1 := Lib.hid hb1
    clear hw1 k0 k1 k2 k0a k1a k2a hb0 hb1
    go_upto_region 4 with fail
    have hta : above.tmod (em - fu + 1) = above % (em - fu + 1) := Int.tmod_eq_emod_of_nonneg a0
    obtain ⟨a, ha⟩ : ∃ a, above % (em - fu + 1) = a := ⟨_, rfl⟩
    have ha0 : 0 ≤ a := by rw [← ha]; exact Int.emod_nonneg _ (by omega)
    have ha1 : a ≤ em - fu := by
      have := Int.emod_lt_of_pos above (show 0 < em - fu + 1 by omega)
      omega
    rw [ha] at hta
    have HTA := Lib.hid ha
    clear ha
    have e1 : IntKind.i64.wrap (em - fu + 1) = em - fu + 1 := IntWalk.i64_in _ (by omega)
    have e2 : IntKind.i64.wrap above = above := IntWalk.i64_in _ (by omega)
    have e3 : IntKind.i64.wrap a = a := IntWalk.i64_in _ (by omega)
    have e4 : IntKind.i64.wrap (fu + a) = fu + a := IntWalk.i64_in _ (by omega)
    have nz : ¬ (em - fu + 1 = 0) := by omega
    go_quiet (fail)
    clear e1 e2 e3 e4 nz hta
    obtain ⟨o, ho⟩ : ∃ o, off % (2 * (er + dr * days) + 1) = o := ⟨_, rfl⟩
    have oo0 : 0 ≤ o := by rw [← ho]; exact Int.emod_nonneg _ (by omega)
    have oo1 : o ≤ 2 * (er + dr * days) := by
      have := Int.emod_lt_of_pos off (show 0 < 2 * (er + dr * days) + 1 by omega)
      omega
    obtain ⟨raw, hraw⟩ : ∃ raw, fu + a - (er + dr * days) + o = raw := ⟨_, rfl⟩
    have HS := Lib.hid (fun (r0 : 0 ≤ raw) (r1 : raw ≤ 100000) => sound HC.out (show 0 ≤ days by omega) (show days ≤ 36524 by omega) (show fu ≤ fu + a by omega) (show fu + a ≤ em by omega) oo0 oo1 hraw.symm r0 r1)
    have HBd := Lib.hid (belowN HB1.out nq)
    by_cases r0 : raw < 0
    · go_wp2_with fail
      refine (awake_any _).mono ?_
      rintro e w9 ⟨rfl, hb9⟩
      have HB9 := Lib.hid (HBd.out.trans (hb9.mono HBd.out.size))
      clear hb9
      go_wp2
      go_ret
      exact ⟨rfl, HB9.out⟩
    by_cases r1 : 100000 < raw
    · go_wp2_with fail
      refine (awake_any _).mono ?_
      rintro e w9 ⟨rfl, hb9⟩
      have HB9 := Lib.hid (HBd.out.trans (hb9.mono HBd.out.size))
      clear hb9
      go_wp2
      go_ret
      exact ⟨rfl, HB9.out⟩
    have r0' : 0 ≤ raw := by omega
    have r1' : raw ≤ 100000 := by omega
    clear r0 r1
    obtain ⟨l1, l2, l3, l4, l5, l6⟩ := HS.out r0' r1'
    obtain ⟨lo, hlo⟩ : ∃ lo, lvLo em fu er dr raw days = lo := ⟨_, rfl⟩
    obtain ⟨hi, hhi⟩ : ∃ hi, lvHi em fu er dr raw days = hi := ⟨_, rfl⟩
    rw [hlo] at l2 l4
    rw [hhi] at l3 l5 l6
    have hlh : lo ≤ hi := by omega
    have dn0 := Int.ediv_nonneg (show 0 ≤ (em - (fu + a)) * 1000 by omega) (show 0 ≤ em - fu by omega)
    have pr0 : 0 ≤ hi * (em - fu) := Int.mul_nonneg (by omega) (by omega)
    have pr1 : hi * (em - fu) ≤ 1000 * 10000 := Int.mul_le_mul l3 (by omega) (by omega) (by omega)
    have pr1' : hi * (em - fu) ≤ 10000000 := by omega
    clear pr1
    have H1 := Lib.hid (And.intro hlo (And.intro hhi l1))
    clear hlo hhi l1
    go_wp2_with fail
    refine (level_any _ _ _ _ _ _ _).mono ?_
    rw [H1.out.1, H1.out.2.1, H1.out.2.2]
    rintro e w2 ⟨rfl, hb2⟩
    have HB2 := Lib.hid (HBd.out.trans (hb2.mono HBd.out.size))
    have k0 := ((show Blk (w1.drewN nq) _ _ _ from K0.out).grow hb2).alloc (.cells #[.int .i64 lo, .int .i64 hi] 25)
    have k2 := ((show Blk (w1.drewN nq) _ _ _ from K2.out).grow hb2).alloc (.cells #[.int .i64 lo, .int .i64 hi] 25)
    have k3 := Blk.new w2 25 #[.int .i64 lo, .int .i64 hi]
    clear hb2 s0 s1 s2 s3 t0 t1
    obtain ⟨w3, hw3, hb3⟩ : ∃ w3, w2.alloc (.cells #[.int .i64 lo, .int .i64 hi] 25) = w3 ∧ Below w.heap.size w w3 := ⟨_, rfl, HB2.out.alloc HB2.out.size _⟩
    rw [hw3] at k0 k2 k3
    have s0 := k0.cell 0
    have s1 := k0.cell 1
    have c0 := k2.cell 0
    have c1 := k2.cell 1
    have c2 := k2.cell 2
    have c3 := k2.cell 3
    have c4 := k2.cell 4
    have d0 := k3.cell 0
    have d1 := k3.cell 1
    simp at s0 s1 c0 c1 c2 c3 c4 d0 d1
    have K2b := Lib.hid k2
    have K3b := Lib.hid k3
    clear k0 k2 k3
    go_wp2_with fail
    refine (clevel_any id kind lit gr node x _).mono ?_
    rintro e w4 ⟨rfl, hb4⟩
    have HB4 := Lib.hid (hb3.trans (hb4.mono hb3.size))
    have k2 := K2b.out.grow hb4
    have k3 := K3b.out.grow hb4
    clear hb3 hb4 hw3 s0 s1 c0 c1 c2 c3 c4 d0 d1 dn0 pr0 pr1' l4 l5 l6
    have c0 := k2.cell 0
    have c1 := k2.cell 1
    have c2 := k2.cell 2
    have c3 := k2.cell 3
    have c4 := k2.cell 4
    have d0 := k3.cell 0
    have d1 := k3.cell 1
    simp at c0 c1 c2 c3 c4 d0 d1
    clear k2 k3
    by_cases hE : clevE gr x = 0
    · rw [hE]
      have HE := Lib.hid hE
      clear hE
      by_cases hx : gr < x
      · go_wp2_with fail
        refine (awake_any _).mono ?_
        rintro e w9 ⟨rfl, hb9⟩
        have HB9 := Lib.hid (HB4.out.trans (hb9.mono HB4.out.size))
        clear hb9
        go_wp2
        go_ret
        exact ⟨rfl, HB9.out⟩
      by_cases hv1 : clevV gr x < lo
      · go_wp2_with fail
        refine (awake_any _).mono ?_
        rintro e w9 ⟨rfl, hb9⟩
        have HB9 := Lib.hid (HB4.out.trans (hb9.mono HB4.out.size))
        clear hb9
        go_wp2
        go_ret
        exact ⟨rfl, HB9.out⟩
      by_cases hv2 : hi < clevV gr x
      · go_wp2_with fail
        refine (awake_any _).mono ?_
        rintro e w9 ⟨rfl, hb9⟩
        have HB9 := Lib.hid (HB4.out.trans (hb9.mono HB4.out.size))
        clear hb9
        go_wp2
        go_ret
        exact ⟨rfl, HB9.out⟩
      obtain ⟨m1, m2, m3⟩ := sound2 HE.out (show x ≤ gr by omega) (show lo ≤ clevV gr x by omega) (show clevV gr x ≤ hi by omega) l2 l3
      obtain ⟨mlo, hmlo⟩ : ∃ y, massLo gr lo hi = y := ⟨_, rfl⟩
      obtain ⟨mhi, hmhi⟩ : ∃ y, massHi gr lo hi = y := ⟨_, rfl⟩
      rw [hmlo] at m2
      rw [hmhi] at m3
      have HM := Lib.hid (And.intro hmlo (And.intro hmhi m1))
      clear hmlo hmhi m1
      go_wp2_with fail
      refine (mass_any id kind lit gr node lo hi _).mono ?_
      rw [HM.out.1, HM.out.2.1, HM.out.2.2]
      rintro e w5 ⟨rfl, hb5⟩
      have HB5 := Lib.hid (HB4.out.trans (hb5.mono HB4.out.size))
      have HB6 := Lib.hid (HB5.out.alloc HB5.out.size (.cells #[.int .i64 mlo, .int .i64 mhi] 25))
      have k4 := Blk.new w5 25 #[.int .i64 mlo, .int .i64 mhi]
      have f0 := k4.cell 0
      have f1 := k4.cell 1
      simp at f0 f1
      clear k4 hb5 c0 c1 c2 c3 c4 d0 d1
      go_wp2_with fail
      refine (awake_any _).mono ?_
      rintro e w9 ⟨rfl, hb9⟩
      have HB9 := Lib.hid (HB6.out.trans (hb9.mono HB6.out.size))
      clear hb9
      go_wp2
      go_ret
      exact ⟨rfl, HB9.out⟩
    · have hne : (clevE gr x == 0) = false := by simpa using hE
      have hne2 : (clevE gr x != 0) = true := by simpa using hE
      clear hE
      go_wp2_with fail
      refine (awake_any _).mono ?_
      rintro e w9 ⟨rfl, hb9⟩
      have HB9 := Lib.hid (HB4.out.trans (hb9.mono HB4.out.size))
      clear hb9
      go_wp2
      go_ret
      exact ⟨rfl, HB9.out⟩
  · have HC := Lib.hid hc
    clear hc
    go_enter Try.func9, Try.ntmps9
    go_wp2_with fail
    have k0 := ((Blk.new w 23 #[.int .i64 em, .int .i64 fu, .int .i64 er, .int .i64 dr]).alloc (.cells #[.int .u32 above, .int .u32 off] 47)).alloc (.cells #[.string id, .int .i64 kind, .int .i64 lit, .int .i64 gr, .int .i64 node] 33)
    have k1 := (Blk.new1 w (.cells #[.int .i64 em, .int .i64 fu, .int .i64 er, .int .i64 dr] 23) 47 #[.int .u32 above, .int .u32 off]).alloc (.cells #[.string id, .int .i64 kind, .int .i64 lit, .int .i64 gr, .int .i64 node] 33)
    have k2 := Blk.new2 w (.cells #[.int .i64 em, .int .i64 fu, .int .i64 er, .int .i64 dr] 23) (.cells #[.int .u32 above, .int .u32 off] 47) 33 #[.string id, .int .i64 kind, .int .i64 lit, .int .i64 gr, .int .i64 node]
    obtain ⟨w0, hw0, hb0⟩ : ∃ w0, ((w.alloc (.cells #[.int .i64 em, .int .i64 fu, .int .i64 er, .int .i64 dr] 23)).alloc (.cells #[.int .u32 above, .int .u32 off] 47)).alloc (.cells #[.string id, .int .i64 kind, .int .i64 lit, .int .i64 gr, .int .i64 node] 33) = w0 ∧ Below w.heap.size w w0 := ⟨_, rfl, by go_grown⟩
    rw [hw0] at k0 k1 k2 ⊢
    clear hw0
    refine (check_any _ _ _ _ _).mono ?_
    rw [HC.out]
    rintro e w1 ⟨rfl, rfl⟩
    have k0a := k0.alloc (.cells #[.int .i64 em, .int .i64 fu, .int .i64 er, .int .i64 dr] 23)
    have k1a := k1.alloc (.cells #[.int .i64 em, .int .i64 fu, .int .i64 er, .int .i64 dr] 23)
    have k2a := k2.alloc (.cells #[.int .i64 em, .int .i64 fu, .int .i64 er, .int .i64 dr] 23)
    have z2 := k2.lt
    obtain ⟨w1, hw1, hb1⟩ : ∃ w1, w0.alloc (.cells #[.int .i64 em, .int .i64 fu, .int .i64 er, .int .i64 dr] 23) = w1 ∧ Below w.heap.size w w1 := ⟨_, rfl, hb0.alloc hb0.size _⟩
    rw [hw1] at k0a k1a k2a ⊢
    have s0 := k0a.cell 0
    have s1 := k0a.cell 1
    have s2 := k0a.cell 2
    have s3 := k0a.cell 3
    have t0 := k1a.cell 0
    have t1 := k1a.cell 1
    simp at s0 s1 s2 s3 t0 t1
    have K0 := Lib.hid k0a
    have K2 := Lib.hid k2a
    have HB1 := Lib.hid hb1
    clear hw1 k0 k1 k2 k0a k1a k2a hb0 hb1
    go_wp2_with fail
    refine (awake_any _).mono ?_
    rintro e w9 ⟨rfl, hb9⟩
    have HB9 := Lib.hid (HB1.out.trans (hb9.mono HB1.out.size))
    clear hb9
    go_wp2
    go_ret
    exact ⟨rfl, HB9.out⟩

theorem own : ownKnob Try.prog.godebug = none := by kernel_rfl
theorem laidOut : laidOutB Try.prog = true := by kernel_rfl
set_option maxRecDepth 100000 in
theorem lifted (os : Os) (started : os.Started) (H : Type) (enc : TypeId × Value → H) :
    ReturnsInHanded {} Try.checked os 9 .any (Rows.fillSoundSpec.pre6 enc Try.prog Try.f9 Rows.fillSoundRow.domain false) (Rows.fillSoundSpec.post enc Try.prog Try.f9 false true false false) := by
  refine returnsInHanded_of_change (C := Try.checked) own started (by kernel_rfl) Try.func9
    (ChangeSpec.witness6 (enc := enc) (C := Try.checked) false ⟨#[], #[.agg #[.int .i64 0, .int .i64 0, .int .i64 0, .int .i64 0], .agg #[.int .u32 0, .int .u32 0], .int .i64 0, .agg #[.string ⟨#[]⟩, .int .i64 0, .int .i64 0, .int .i64 0, .int .i64 0], .int .i64 0], []⟩ 8 (by kernel_rfl) (by kernel_rfl) (by kernel_rfl) (by kernel_rfl)) ?_
  intro W base args ds gs before hval0 hW hcnd _
  have hval : ∀ (j : Nat) t v, Try.f9.params[j]? = some t → args[j]? = some v → Value.okWide Try.prog W .any base t v := hval0
  have hW' := hW
  obtain ⟨p, q, hA0, hV, rfl, hfz, hnd⟩ := hW
  have hA : DataW.TrodAll enc Try.prog W 0 (fun _ => true) true Try.f9.params.toList args.toList ds p := hA0
  rw [Try.params9] at hA hval
  obtain ⟨v0, vs0, d0, ds0, p0, q0, hargs, rfl, rfl, h0, r0⟩ := trodAll_cons hA
  obtain ⟨v1, vs1, d1, ds1, p1, q1, rfl, rfl, rfl, h1, r1⟩ := trodAll_cons r0
  obtain ⟨v2, vs2, d2, ds2, p2, q2, rfl, rfl, rfl, h2, r2⟩ := trodAll_cons r1
  obtain ⟨v3, vs3, d3, ds3, p3, q3, rfl, rfl, rfl, h3, r3⟩ := trodAll_cons r2
  obtain ⟨v4, vs4, d4, ds4, p4, q4, rfl, rfl, rfl, h4, r4⟩ := trodAll_cons r3
  obtain ⟨rfl, rfl, rfl⟩ := trodAll_nil r4
  obtain rfl : args = #[v0, v1, v2, v3, v4] := by cases args; simp_all
  obtain ⟨rfl, rfl⟩ := trodVars_none hV
  have k0 := h0
  have lt0 : ∀ x ∈ p0, x.block < W.heap.size := by obtain ⟨m, hm⟩ := k0; exact DataW.trod_lt m _ _ _ hm
  have O0 := open_sensor W (hval 0 23 v0 rfl rfl) h0
  have k1 := h1
  have lt1 : ∀ x ∈ p1, x.block < W.heap.size := by obtain ⟨m, hm⟩ := k1; exact DataW.trod_lt m _ _ _ hm
  have O1 := open_truth W (hval 1 47 v1 rfl rfl) h1
  have k2 := h2
  have lt2 : ∀ x ∈ p2, x.block < W.heap.size := by obtain ⟨m, hm⟩ := k2; exact DataW.trod_lt m _ _ _ hm
  have O2 := open_int W (hval 2 3 v2 rfl rfl) h2
  have k3 := h3
  have lt3 : ∀ x ∈ p3, x.block < W.heap.size := by obtain ⟨m, hm⟩ := k3; exact DataW.trod_lt m _ _ _ hm
  have O3 := open_cont W (hval 3 33 v3 rfl rfl) h3
  have k4 := h4
  have lt4 : ∀ x ∈ p4, x.block < W.heap.size := by obtain ⟨m, hm⟩ := k4; exact DataW.trod_lt m _ _ _ hm
  have O4 := open_int W (hval 4 3 v4 rfl rfl) h4
  clear hA0 hval0
  refine (walk W v0 O0 v1 O1 v2 O2 v3 O3 v4 O4).mono fun e W' ⟨he, bel⟩ => ?_
  subst he
  exact ⟨_, rfl, _, _, _, [], _, [], hW', trodAll_mk1 (shut_bool Try.underlying4 _), (trodAll_cons_mk (Below.trod laidOut (by kernel_rfl) (of_decide_eq_true (by kernel_rfl)) k0 bel lt0) (trodAll_cons_mk (Below.trod laidOut (by kernel_rfl) (of_decide_eq_true (by kernel_rfl)) k1 bel lt1) (trodAll_cons_mk (Below.trod laidOut (by kernel_rfl) (of_decide_eq_true (by kernel_rfl)) k2 bel lt2) (trodAll_cons_mk (Below.trod laidOut (by kernel_rfl) (of_decide_eq_true (by kernel_rfl)) k3 bel lt3) (trodAll_cons_mk (Below.trod laidOut (by kernel_rfl) (of_decide_eq_true (by kernel_rfl)) k4 bel lt4) trodAll_mk0))))), rfl, bel.frame _, fun h => by cases h⟩
theorem over : Rows.fillSoundRow.holds Try.pinned (OpenSpec.ofChange Rows.fillSoundSpec) :=
  OpenClaim.holds_of_wide 9 Try.f9 rfl rfl rfl rfl rfl rfl rfl ⟨rfl, rfl, rfl, rfl, rfl⟩ rfl rfl rfl rfl rfl (by kernel_rfl) Try.func9 (by kernel_rfl)
    (of_decide_eq_true (by kernel_rfl)) (by unfold Func.isWrapper; first | (rw [if_pos (by decide +kernel)]; kernel_rfl) | (rw [if_neg (by decide +kernel)]; exact ⟨rfl, rfl⟩))
    (fun os started H enc _ => lifted os started H enc)
theorem proved : Rows.FillSoundSaid := over
#print axioms proved

end Go.Proofs.Ytopdcngplcoejaa.fillSound
