/- The contract of the reference's Level: the same values as the program's. -/
import Derived.Test.YtopdcngplcoejaaLevel
import Derived.Deep.DeepCutAuto
namespace Go.Proofs.Ytopdcngplcoejaa
open Go.RowKit

set_option maxRecDepth 100000 in
set_option maxHeartbeats 1600000 in
theorem rlevel_in (em fu er dr raw days : Int) (w : World) (hc : chkE em fu er dr = 0) (h1 : 0 ≤ raw) (h2 : raw ≤ 100000) (h3 : 0 ≤ days) (h4 : days ≤ 36524) :
    Calls Try.prog 12 #[.agg #[.int .i64 em, .int .i64 fu, .int .i64 er, .int .i64 dr], .int .i64 raw, .int .i64 days] w fun e w' =>
      e = .returned (.tuple #[.agg #[.int .i64 (lvLo em fu er dr raw days), .int .i64 (lvHi em fu er dr raw days)], .int .i64 (lvE em fu er dr raw days)]) ∧ Below w.heap.size w w' := by
  have hb : ¬ (fu < 0 ∨ em ≤ fu ∨ 10000 < em ∨ er < 0 ∨ 1000 < er ∨ dr < 0 ∨ 100 < dr) := fun h => by rw [chk_bad h] at hc; cases hc
  have p0 : 0 ≤ dr * days := Int.mul_nonneg (by omega) h3
  have p1 : dr * days ≤ 3652400 := by
    have := Int.mul_le_mul (show dr ≤ 100 by omega) h4 h3 (by omega)
    omega
  have HC := Lib.hid hc
  clear hc
  have b1 : 0 ≤ fu := by omega
  have b2 : fu < em := by omega
  have b3 : em ≤ 10000 := by omega
  have b4 : 0 ≤ er := by omega
  have b5 : er ≤ 1000 := by omega
  clear hb
  go_enter Try.func12, Try.ntmps12
  go_wp2_with fail
  refine (rcheck_any _ _ _ _ _).mono ?_
  rw [HC.out]
  rintro e w1 ⟨rfl, rfl⟩
  go_wp2_with fail
  generalize hx : er + dr * days = x at *
  have HX := Lib.hid hx
  have x0 : 0 ≤ x := by omega
  have x1 : x ≤ 3653400 := by omega
  clear hx p0 p1
  have hbW : Below w.heap.size w (((w.alloc (.cells #[.int .i64 em, .int .i64 fu, .int .i64 er, .int .i64 dr] 23)).alloc (.cells #[.int .i64 0, .int .i64 0] 25)).alloc (.cells #[.int .i64 em, .int .i64 fu, .int .i64 er, .int .i64 dr] 23)) := by go_grown
  have k0 := ((Blk.new w 23 #[.int .i64 em, .int .i64 fu, .int .i64 er, .int .i64 dr]).alloc (.cells #[.int .i64 0, .int .i64 0] 25)).alloc (.cells #[.int .i64 em, .int .i64 fu, .int .i64 er, .int .i64 dr] 23)
  have k2 := (Blk.new1 w (.cells #[.int .i64 em, .int .i64 fu, .int .i64 er, .int .i64 dr] 23) 25 #[.int .i64 0, .int .i64 0]).alloc (.cells #[.int .i64 em, .int .i64 fu, .int .i64 er, .int .i64 dr] 23)
  generalize (((w.alloc (.cells #[.int .i64 em, .int .i64 fu, .int .i64 er, .int .i64 dr] 23)).alloc (.cells #[.int .i64 0, .int .i64 0] 25)).alloc (.cells #[.int .i64 em, .int .i64 fu, .int .i64 er, .int .i64 dr] 23)) = W at *
  have c0 := k0.cell 0
  have c1 := k0.cell 1
  simp at c0 c1
  have HK0 := Lib.hid k0
  have HK2 := Lib.hid k2
  have HBW := Lib.hid hbW
  clear k0 k2 hbW
  have s1 : IntKind.i64.wrap (raw - x) = raw - x := IntWalk.i64_in _ (by omega)
  have s2 : IntKind.i64.wrap (raw + x) = raw + x := IntWalk.i64_in _ (by omega)
  go_upto_region 4 with fail
  go_cut [9, 10] (fun s9 s10 wx => s9 = .int .i64 (max fu (raw - x)) ∧ s10 = .int .i64 (min em (raw + x)) ∧ Blk wx w.heap.size 23 #[.int .i64 em, .int .i64 fu, .int .i64 er, .int .i64 dr] ∧ Blk wx (w.heap.size + 1) 25 #[.int .i64 0, .int .i64 0] ∧ Below w.heap.size w wx)
  case first =>
    by_cases g1 : fu < raw - x
    · by_cases g2 : raw + x < em
      · go_quiet (fail)
        go_wp2_with fail
        go_meet
        exact ⟨by rw [Int.max_eq_right (by omega)], by rw [Int.min_eq_right (by omega)], HK0.out, HK2.out, belowN HBW.out _⟩
      · go_quiet (fail)
        go_wp2_with fail
        go_meet
        exact ⟨by rw [Int.max_eq_right (by omega)], by rw [Int.min_eq_left (by omega)], HK0.out, HK2.out, belowN HBW.out _⟩
    · by_cases g2 : raw + x < em
      · go_quiet (fail)
        go_wp2_with fail
        go_meet
        exact ⟨by rw [Int.max_eq_left (by omega)], by rw [Int.min_eq_right (by omega)], HK0.out, HK2.out, belowN HBW.out _⟩
      · go_quiet (fail)
        go_wp2_with fail
        go_meet
        exact ⟨by rw [Int.max_eq_left (by omega)], by rw [Int.min_eq_left (by omega)], HK0.out, HK2.out, belowN HBW.out _⟩
  case rest =>
    clear c0 c1 HK0 HK2 HBW
    obtain ⟨rfl, rfl, k0, k2, hbW⟩ := hcut
    have c0 := k0.cell 0
    have c1 := k0.cell 1
    simp at c0 c1
    have HK2 := Lib.hid k2
    have HBW := Lib.hid hbW
    clear k0 k2 hbW
    generalize hm2 : max fu (raw - x) = m2
    generalize hm1 : min em (raw + x) = m1
    have d0 := ((HK2.out.set_ 0 (.int .i64 0)).set_ 1 (.int .i64 0)).cell 0
    have d1 := ((HK2.out.set_ 0 (.int .i64 0)).set_ 1 (.int .i64 0)).cell 1
    have f3 := HK2.out.frozen 0
    have f4 := HK2.out.frozen 1
    have c3 := HK2.out.cell 0
    have c4 := HK2.out.cell 1
    simp at c3 c4 d0 d1
    by_cases hgt : m1 < m2
    · have hE : Hid (lvE em fu er dr raw days = 10) := Lib.hid (by unfold lvE; rw [if_neg (fun y => y.elim (fun z => z HC.out) (by omega)), HX.out, if_pos (by omega)])
      have e1 : Hid (lvLo em fu er dr raw days = 0) := Lib.hid (if_neg (by rw [hE.out]; decide))
      have e2 : Hid (lvHi em fu er dr raw days = 0) := Lib.hid (if_neg (by rw [hE.out]; decide))
      clear hm1 hm2
      go_wp2
      refine bodyPost_ret (v := .tuple #[.agg #[.int .i64 0, .int .i64 0], .int .i64 10]) (by simp [results, Try.results12, go_sem, d0, d1]) rfl ⟨by rw [hE.out, e1.out, e2.out], ?_⟩
      exact (HBW.out.setCell (by simp) _).setCell (by simp) _
    · have hm1' : min (max (raw + x) fu) em = m1 := by omega
      have hm2' : min (max (raw - x) fu) em = m2 := by omega
      have hE : Hid (lvE em fu er dr raw days = 0) := Lib.hid (by unfold lvE; rw [if_neg (fun y => y.elim (fun z => z HC.out) (by omega)), HX.out, if_neg (by omega)])
      have e1 : Hid (lvLo em fu er dr raw days = (em - m1) * 1000 / (em - fu)) := Lib.hid ((if_pos hE.out).trans (by rw [HX.out, hm1']))
      have e2 : Hid (lvHi em fu er dr raw days = ((em - m2) * 1000 + (em - fu) - 1) / (em - fu)) := Lib.hid ((if_pos hE.out).trans (by rw [HX.out, hm2']))
      have m11 : fu ≤ m1 := by omega
      have m12 : m1 ≤ em := by omega
      have m21 : fu ≤ m2 := by omega
      have m22 : m2 ≤ em := by omega
      clear hm1 hm2 hm1' hm2' s1 s2
      have q1 := div_bd ((em - m1) * 1000) (em - fu) (by omega) (by omega)
      go_wp2_with fail
      have s1 : IntKind.i64.wrap (em - m1) = em - m1 := IntWalk.i64_in _ (by omega)
      have s2 : IntKind.i64.wrap ((em - m1) * 1000) = (em - m1) * 1000 := IntWalk.i64_in _ (by omega)
      have s3 : ((em - m1) * 1000).tdiv (em - fu) = (em - m1) * 1000 / (em - fu) := Int.tdiv_eq_ediv_of_nonneg (by omega)
      have s4 : IntKind.i64.wrap ((em - m1) * 1000 / (em - fu)) = (em - m1) * 1000 / (em - fu) := IntWalk.i64_in _ (by omega)
      have s5 : IntKind.i64.wrap (em - fu) = em - fu := IntWalk.i64_in _ (by omega)
      have s6 : IntKind.i64.wrap (em - m2) = em - m2 := IntWalk.i64_in _ (by omega)
      have s7 : IntKind.i64.wrap ((em - m2) * 1000) = (em - m2) * 1000 := IntWalk.i64_in _ (by omega)
      have hnz : ¬ (em - fu = 0) := by omega
      have u0 : 0 ≤ (em - m2) * 1000 := by omega
      have u1 : (em - m2) * 1000 ≤ 1000000000000000000 := by omega
      have u2 : 1 ≤ em - fu := by omega
      have u3 : em - fu ≤ 1000000000000000000 := by omega
      refine wp_region_still_tail 23 (by kernel_rfl) (by kernel_rfl) ?_
      simp only [List.take_succ_cons, List.take_zero, List.drop_succ_cons, List.drop_zero]
      repeat still_step
      still_call (rup_q u0 u1 u2 u3)
      repeat still_step
      refine wpStill_nil ?_
      clear s1 s2 s3 s4 s5 s6 s7
      go_wp2
      have g0 := ((HK2.out.set_ 0 (.int .i64 ((em - m1) * 1000 / (em - fu)))).set_ 1 (.int .i64 (((em - m2) * 1000 + (em - fu) - 1) / (em - fu)))).cell 0
      have g1 := ((HK2.out.set_ 0 (.int .i64 ((em - m1) * 1000 / (em - fu)))).set_ 1 (.int .i64 (((em - m2) * 1000 + (em - fu) - 1) / (em - fu)))).cell 1
      simp at g0 g1
      refine bodyPost_ret (v := .tuple #[.agg #[.int .i64 ((em - m1) * 1000 / (em - fu)), .int .i64 (((em - m2) * 1000 + (em - fu) - 1) / (em - fu))], .int .i64 0]) (by simp [results, Try.results12, go_sem, g0, g1]) rfl ⟨by rw [hE.out, e1.out, e2.out], ?_⟩
      exact ((HBW.out.setCell (by simp) _).setCell (by simp) _).drew
end Go.Proofs.Ytopdcngplcoejaa
