/- The contracts of fill.Check, fill.Level, fill.Mass, and what has a level in an interval has a mass in the interval of masses. -/
import Derived.Test.YtmkbgjilkdbmiaaTskM
import Derived.StillTailTactics
import Derived.IntWalk
namespace Go.Proofs.Ytmkbgjilkdbmiaa.Fi
open Go.RowKit

/-- the error of a sensor -/
def chkE (em fu er dr : Int) : Int := if fu < 0 ∨ em ≤ fu ∨ 10000 < em ∨ er < 0 ∨ 1000 < er ∨ dr < 0 ∨ 100 < dr then 1 else 0
theorem chk_bad {em fu er dr : Int} (h : fu < 0 ∨ em ≤ fu ∨ 10000 < em ∨ er < 0 ∨ 1000 < er ∨ dr < 0 ∨ 100 < dr) : chkE em fu er dr = 1 := if_pos h
theorem chk_ok {em fu er dr : Int} (h : ¬ (fu < 0 ∨ em ≤ fu ∨ 10000 < em ∨ er < 0 ∨ 1000 < er ∨ dr < 0 ∨ 100 < dr)) : chkE em fu er dr = 0 := if_neg h
set_option maxHeartbeats 800000 in
theorem check_any (em fu er dr : Int) (w : World) :
    Calls Try.prog 11 #[.agg #[.int .i64 em, .int .i64 fu, .int .i64 er, .int .i64 dr]] w fun e w' => e = .returned (.int .i64 (chkE em fu er dr)) ∧ w' = w.alloc (.cells #[.int .i64 em, .int .i64 fu, .int .i64 er, .int .i64 dr] 25) := by
  by_cases h1 : fu < 0
  · go_enter Try.func11, Try.ntmps11
    go_wp2
    go_ret
    exact ⟨ret_int (chk_bad (by omega)).symm, rfl⟩
  by_cases h2 : em ≤ fu
  · go_enter Try.func11, Try.ntmps11
    go_wp2
    go_ret
    exact ⟨ret_int (chk_bad (by omega)).symm, rfl⟩
  by_cases h3 : 10000 < em
  · go_enter Try.func11, Try.ntmps11
    go_wp2
    go_ret
    exact ⟨ret_int (chk_bad (by omega)).symm, rfl⟩
  by_cases h4 : er < 0
  · go_enter Try.func11, Try.ntmps11
    go_wp2
    go_ret
    exact ⟨ret_int (chk_bad (by omega)).symm, rfl⟩
  by_cases h5 : 1000 < er
  · go_enter Try.func11, Try.ntmps11
    go_wp2
    go_ret
    exact ⟨ret_int (chk_bad (by omega)).symm, rfl⟩
  by_cases h6 : dr < 0
  · go_enter Try.func11, Try.ntmps11
    go_wp2
    go_ret
    exact ⟨ret_int (chk_bad (by omega)).symm, rfl⟩
  by_cases h7 : 100 < dr
  · go_enter Try.func11, Try.ntmps11
    go_wp2
    go_ret
    exact ⟨ret_int (chk_bad (by omega)).symm, rfl⟩
  · go_enter Try.func11, Try.ntmps11
    go_wp2
    go_ret
    exact ⟨ret_int (chk_ok (by omega)).symm, rfl⟩

set_option maxHeartbeats 400000 in
theorem up_any (a b : Int) (w : World) (h0 : 0 ≤ a) (h1 : a ≤ 1000000000000000000) (h2 : 1 ≤ b) (h3 : b ≤ 1000000000000000000) :
    Calls Try.prog 13 #[.int .i64 a, .int .i64 b] w fun e w' => e = .returned (.int .i64 ((a + b - 1) / b)) ∧ w = w' := by
  have hq := div_bd (a + b - 1) b (by omega) h2
  go_enter Try.func13, Try.ntmps13
  go_wp2
  go_ret
  exact ⟨rfl, rfl⟩
set_option maxHeartbeats 400000 in
theorem possible_any (x raw em fu : Int) (rb sb : Nat) (w : World) (hr : w.cell? ⟨rb, 0, none⟩ = some (.int .i64 raw)) (he : w.cell? ⟨sb, 0, none⟩ = some (.int .i64 em)) (hf : w.cell? ⟨sb, 1, none⟩ = some (.int .i64 fu))
    (b1 : -10000000 ≤ x) (b2 : x ≤ 10000000) (b3 : 0 ≤ raw) (b4 : raw ≤ 100000) :
    Calls Try.prog 12 #[.int .i64 x, .pointer (some ⟨rb, 0, none⟩), .pointer (some ⟨sb, 0, none⟩)] w fun e w' => e = .returned (.int .i64 (min (max (raw + x) fu) em)) ∧ w = w' := by
  go_enter Try.func12, Try.ntmps12
  go_wp2
  all_goals
    go_ret
    exact ⟨ret_int (by omega), rfl⟩

theorem possible_q {m x raw em fu : Int} {rb sb : Nat} {w : World} (hm : min (max (raw + x) fu) em = m) (hr : w.cell? ⟨rb, 0, none⟩ = some (.int .i64 raw)) (he : w.cell? ⟨sb, 0, none⟩ = some (.int .i64 em)) (hf : w.cell? ⟨sb, 1, none⟩ = some (.int .i64 fu))
    (b1 : -10000000 ≤ x) (b2 : x ≤ 10000000) (b3 : 0 ≤ raw) (b4 : raw ≤ 100000) :
    Calls Try.prog 12 #[.int .i64 x, .pointer (some ⟨rb, 0, none⟩), .pointer (some ⟨sb, 0, none⟩)] w fun e w' => e = .returned (.int .i64 m) ∧ w' = w :=
  (possible_any x raw em fu rb sb w hr he hf b1 b2 b3 b4).mono fun _ _ ⟨h1, h2⟩ => ⟨by rw [← hm]; exact h1, h2.symm⟩
theorem up_q {a b : Int} {w : World} (h0 : 0 ≤ a) (h1 : a ≤ 1000000000000000000) (h2 : 1 ≤ b) (h3 : b ≤ 1000000000000000000) :
    Calls Try.prog 13 #[.int .i64 a, .int .i64 b] w fun e w' => e = .returned (.int .i64 ((a + b - 1) / b)) ∧ w' = w :=
  (up_any a b w h0 h1 h2 h3).mono fun _ _ ⟨h1, h2⟩ => ⟨h1, h2.symm⟩
set_option maxRecDepth 100000 in
set_option maxHeartbeats 800000 in
theorem level_ok (em fu er dr raw days : Int) (w : World) (hc : chkE em fu er dr = 0) (h1 : 0 ≤ raw) (h2 : raw ≤ 100000) (h3 : 0 ≤ days) (h4 : days ≤ 36524) (h5 : raw - (er + dr * days) ≤ em) (h6 : fu ≤ raw + (er + dr * days)) :
    Calls Try.prog 6 #[.agg #[.int .i64 em, .int .i64 fu, .int .i64 er, .int .i64 dr], .int .i64 raw, .int .i64 days] w fun e w' =>
      e = .returned (.tuple #[.agg #[.int .i64 ((em - min (max (raw + (er + dr * days)) fu) em) * 1000 / (em - fu)), .int .i64 (((em - min (max (raw - (er + dr * days)) fu) em) * 1000 + (em - fu) - 1) / (em - fu))], .int .i64 0]) ∧ Below w.heap.size w w' := by
  have hb : ¬ (fu < 0 ∨ em ≤ fu ∨ 10000 < em ∨ er < 0 ∨ 1000 < er ∨ dr < 0 ∨ 100 < dr) := fun h => by rw [chk_bad h] at hc; cases hc
  have p0 : 0 ≤ dr * days := Int.mul_nonneg (by omega) h3
  have p1 : dr * days ≤ 3652400 := by
    have := Int.mul_le_mul (show dr ≤ 100 by omega) h4 h3 (by omega)
    omega
  have HC := Lib.hid hc
  clear hc
  have b1 : 0 ≤ fu := by omega
  have b2 : fu < em := by omega
  have b3 : em ≤ 10000 := by omega
  have b4 : 0 ≤ er := by omega
  have b5 : er ≤ 1000 := by omega
  clear hb
  go_enter Try.func6, Try.ntmps6
  go_wp2_with fail
  refine (check_any _ _ _ _ _).mono ?_
  rw [HC.out]
  rintro e w1 ⟨rfl, rfl⟩
  go_wp2_with fail
  generalize hx : er + dr * days = x at *
  have x0 : 0 ≤ x := by omega
  have x1 : x ≤ 3653400 := by omega
  have HX := Lib.hid hx
  clear hx p0 p1
  generalize hm1 : min (max (raw + x) fu) em = m1
  generalize hm2 : min (max (raw - x) fu) em = m2
  have m11 : fu ≤ m1 := by omega
  have m12 : m1 ≤ em := by omega
  have m21 : fu ≤ m2 := by omega
  have m22 : m2 ≤ em := by omega
  have HM1 := Lib.hid hm1
  have HM2 := Lib.hid hm2
  clear hm1 hm2
  have q1 := div_bd ((em - m1) * 1000) (em - fu) (by omega) (by omega)
  have hbW : Below w.heap.size w ((((w.alloc (.cells #[.int .i64 em, .int .i64 fu, .int .i64 er, .int .i64 dr] 25)).alloc (.cells #[.int .i64 raw] 3)).alloc (.cells #[.int .i64 0, .int .i64 0] 33)).alloc (.cells #[.int .i64 em, .int .i64 fu, .int .i64 er, .int .i64 dr] 25)) := by go_grown
  have k0 := (((Blk.new w 25 #[.int .i64 em, .int .i64 fu, .int .i64 er, .int .i64 dr]).alloc (.cells #[.int .i64 raw] 3)).alloc (.cells #[.int .i64 0, .int .i64 0] 33)).alloc (.cells #[.int .i64 em, .int .i64 fu, .int .i64 er, .int .i64 dr] 25)
  have k1 := ((Blk.new1 w (.cells #[.int .i64 em, .int .i64 fu, .int .i64 er, .int .i64 dr] 25) 3 #[.int .i64 raw]).alloc (.cells #[.int .i64 0, .int .i64 0] 33)).alloc (.cells #[.int .i64 em, .int .i64 fu, .int .i64 er, .int .i64 dr] 25)
  have k2 := (Blk.new2 w (.cells #[.int .i64 em, .int .i64 fu, .int .i64 er, .int .i64 dr] 25) (.cells #[.int .i64 raw] 3) 33 #[.int .i64 0, .int .i64 0]).alloc (.cells #[.int .i64 em, .int .i64 fu, .int .i64 er, .int .i64 dr] 25)
  generalize ((((w.alloc (.cells #[.int .i64 em, .int .i64 fu, .int .i64 er, .int .i64 dr] 25)).alloc (.cells #[.int .i64 raw] 3)).alloc (.cells #[.int .i64 0, .int .i64 0] 33)).alloc (.cells #[.int .i64 em, .int .i64 fu, .int .i64 er, .int .i64 dr] 25)) = W at *
  have c0 := k0.cell 0
  have c1 := k0.cell 1
  have c2 := k1.cell 0
  have c3 := k2.cell 0
  have c4 := k2.cell 1
  have f3 := k2.frozen 0
  have f4 := k2.frozen 1
  simp at c0 c1 c2 c3 c4
  have HK2 := Lib.hid k2
  have HBW := Lib.hid hbW
  clear k0 k1 k2 hbW
  refine wp_region_still_tail 20 (by kernel_rfl) (by kernel_rfl) ?_
  simp only [List.take_succ_cons, List.take_zero, List.drop_succ_cons, List.drop_zero]
  have s1 : IntKind.i64.wrap (em - m1) = em - m1 := IntWalk.i64_in _ (by omega)
  have s2 : IntKind.i64.wrap ((em - m1) * 1000) = (em - m1) * 1000 := IntWalk.i64_in _ (by omega)
  have s3 : ((em - m1) * 1000).tdiv (em - fu) = (em - m1) * 1000 / (em - fu) := Int.tdiv_eq_ediv_of_nonneg (by omega)
  have s4 : IntKind.i64.wrap ((em - m1) * 1000 / (em - fu)) = (em - m1) * 1000 / (em - fu) := IntWalk.i64_in _ (by omega)
  have s5 : IntKind.i64.wrap (-x) = -x := IntWalk.i64_in _ (by omega)
  have s6 : IntKind.i64.wrap (em - m2) = em - m2 := IntWalk.i64_in _ (by omega)
  have s7 : IntKind.i64.wrap ((em - m2) * 1000) = (em - m2) * 1000 := IntWalk.i64_in _ (by omega)
  have hnz : ¬ (em - fu = 0) := by omega
  have u0 : 0 ≤ (em - m2) * 1000 := by omega
  have u1 : (em - m2) * 1000 ≤ 1000000000000000000 := by omega
  have u2 : 1 ≤ em - fu := by omega
  have u3 : em - fu ≤ 1000000000000000000 := by omega
  have x2 : -10000000 ≤ x := by omega
  have x3 : x ≤ 10000000 := by omega
  have x4 : -10000000 ≤ -x := by omega
  have x5 : -x ≤ 10000000 := by omega
  repeat still_step
  still_call (possible_q (m := m1) HM1.out c2 c0 c1 x2 x3 h1 h2)
  repeat still_step
  still_call (possible_q (m := m2) (by have := HM2.out; rw [Int.sub_eq_add_neg] at this; exact this) c2 c0 c1 x4 x5 h1 h2)
  repeat still_step
  still_call (up_q u0 u1 u2 u3)
  repeat still_step
  refine wpStill_nil ?_
  clear s1 s2 s3 s4 s5 s6 s7
  go_wp2
  have d0 := ((HK2.out.set_ 0 (.int .i64 ((em - m1) * 1000 / (em - fu)))).set_ 1 (.int .i64 (((em - m2) * 1000 + (em - fu) - 1) / (em - fu)))).cell 0
  have d1 := ((HK2.out.set_ 0 (.int .i64 ((em - m1) * 1000 / (em - fu)))).set_ 1 (.int .i64 (((em - m2) * 1000 + (em - fu) - 1) / (em - fu)))).cell 1
  simp at d0 d1
  refine bodyPost_ret (v := .tuple #[.agg #[.int .i64 ((em - m1) * 1000 / (em - fu)), .int .i64 (((em - m2) * 1000 + (em - fu) - 1) / (em - fu))], .int .i64 0]) (by simp [results, Try.results6, go_sem, d0, d1]) rfl ⟨?_, ?_⟩
  · rw [HX.out, HM1.out, HM2.out]
  · exact (((HBW.out.setCell (by simp; omega) _).setCell (by simp; omega) _).drew)

/-- the errno of Level -/
def lvE (em fu er dr raw days : Int) : Int := if chkE em fu er dr ≠ 0 ∨ raw < 0 ∨ 100000 < raw ∨ days < 0 ∨ 36524 < days then 1 else if em < raw - (er + dr * days) ∨ raw + (er + dr * days) < fu then 10 else 0
def lvLo (em fu er dr raw days : Int) : Int := if lvE em fu er dr raw days = 0 then (em - min (max (raw + (er + dr * days)) fu) em) * 1000 / (em - fu) else 0
def lvHi (em fu er dr raw days : Int) : Int := if lvE em fu er dr raw days = 0 then ((em - min (max (raw - (er + dr * days)) fu) em) * 1000 + (em - fu) - 1) / (em - fu) else 0

set_option maxRecDepth 100000 in
set_option maxHeartbeats 800000 in
theorem level_bad (em fu er dr raw days : Int) (w : World) (hc : chkE em fu er dr = 1) :
    Calls Try.prog 6 #[.agg #[.int .i64 em, .int .i64 fu, .int .i64 er, .int .i64 dr], .int .i64 raw, .int .i64 days] w fun e w' =>
      e = .returned (.tuple #[.agg #[.int .i64 0, .int .i64 0], .int .i64 1]) ∧ Below w.heap.size w w' := by
  have HC := Lib.hid hc
  clear hc
  go_enter Try.func6, Try.ntmps6
  go_wp2_with fail
  refine (check_any _ _ _ _ _).mono ?_
  rw [HC.out]
  rintro e w1 ⟨rfl, rfl⟩
  go_wp2_with fail
  refine bodyPost_ret (v := .tuple #[.agg #[.int .i64 0, .int .i64 0], .int .i64 1]) (by simp [results, Try.results6, go_sem]) rfl ⟨rfl, ?_⟩
  go_grown

set_option maxRecDepth 100000 in
set_option maxHeartbeats 800000 in
theorem level_range (em fu er dr raw days : Int) (w : World) (hc : chkE em fu er dr = 0) (h : raw < 0 ∨ 100000 < raw ∨ days < 0 ∨ 36524 < days) :
    Calls Try.prog 6 #[.agg #[.int .i64 em, .int .i64 fu, .int .i64 er, .int .i64 dr], .int .i64 raw, .int .i64 days] w fun e w' =>
      e = .returned (.tuple #[.agg #[.int .i64 0, .int .i64 0], .int .i64 1]) ∧ Below w.heap.size w w' := by
  have HC := Lib.hid hc
  clear hc
  have hh : raw < 0 ∨ (0 ≤ raw ∧ 100000 < raw) ∨ (0 ≤ raw ∧ raw ≤ 100000 ∧ days < 0) ∨ (0 ≤ raw ∧ raw ≤ 100000 ∧ 0 ≤ days ∧ 36524 < days) := by omega
  clear h
  rcases hh with h1 | ⟨h1, h2⟩ | ⟨h1, h2, h3⟩ | ⟨h1, h2, h3, h4⟩
  all_goals
    go_enter Try.func6, Try.ntmps6
    go_wp2_with fail
    refine (check_any _ _ _ _ _).mono ?_
    rw [HC.out]
    rintro e w1 ⟨rfl, rfl⟩
    go_wp2_with fail
    refine bodyPost_ret (v := .tuple #[.agg #[.int .i64 0, .int .i64 0], .int .i64 1]) (by simp [results, Try.results6, go_sem]) rfl ⟨rfl, ?_⟩
    go_grown

set_option maxRecDepth 100000 in
set_option maxHeartbeats 800000 in
theorem level_empty (em fu er dr raw days : Int) (w : World) (hc : chkE em fu er dr = 0) (h1 : 0 ≤ raw) (h2 : raw ≤ 100000) (h3 : 0 ≤ days) (h4 : days ≤ 36524) (h : em < raw - (er + dr * days) ∨ raw + (er + dr * days) < fu) :
    Calls Try.prog 6 #[.agg #[.int .i64 em, .int .i64 fu, .int .i64 er, .int .i64 dr], .int .i64 raw, .int .i64 days] w fun e w' =>
      e = .returned (.tuple #[.agg #[.int .i64 0, .int .i64 0], .int .i64 10]) ∧ Below w.heap.size w w' := by
  have hb : ¬ (fu < 0 ∨ em ≤ fu ∨ 10000 < em ∨ er < 0 ∨ 1000 < er ∨ dr < 0 ∨ 100 < dr) := fun h => by rw [chk_bad h] at hc; cases hc
  have p0 : 0 ≤ dr * days := Int.mul_nonneg (by omega) h3
  have p1 : dr * days ≤ 3652400 := by
    have := Int.mul_le_mul (show dr ≤ 100 by omega) h4 h3 (by omega)
    omega
  have HC := Lib.hid hc
  clear hc
  have b1 : 0 ≤ fu := by omega
  have b2 : fu < em := by omega
  have b3 : em ≤ 10000 := by omega
  have b4 : 0 ≤ er := by omega
  have b5 : er ≤ 1000 := by omega
  clear hb
  have hh : em < raw - (er + dr * days) ∨ (raw - (er + dr * days) ≤ em ∧ raw + (er + dr * days) < fu) := by omega
  clear h
  rcases hh with g1 | ⟨g1, g2⟩
  all_goals
    go_enter Try.func6, Try.ntmps6
    go_wp2_with fail
    refine (check_any _ _ _ _ _).mono ?_
    rw [HC.out]
    rintro e w1 ⟨rfl, rfl⟩
    go_wp2_with fail
    refine bodyPost_ret (v := .tuple #[.agg #[.int .i64 0, .int .i64 0], .int .i64 10]) (by simp [results, Try.results6, go_sem]) rfl ⟨rfl, ?_⟩
    go_grown

theorem chk_01 (em fu er dr : Int) : chkE em fu er dr = 0 ∨ chkE em fu er dr = 1 := by
  unfold chkE; split
  · exact .inr rfl
  · exact .inl rfl
theorem level_any (em fu er dr raw days : Int) (w : World) :
    Calls Try.prog 6 #[.agg #[.int .i64 em, .int .i64 fu, .int .i64 er, .int .i64 dr], .int .i64 raw, .int .i64 days] w fun e w' =>
      e = .returned (.tuple #[.agg #[.int .i64 (lvLo em fu er dr raw days), .int .i64 (lvHi em fu er dr raw days)], .int .i64 (lvE em fu er dr raw days)]) ∧ Below w.heap.size w w' := by
  rcases chk_01 em fu er dr with hc | hc
  · by_cases h : raw < 0 ∨ 100000 < raw ∨ days < 0 ∨ 36524 < days
    · have hE : lvE em fu er dr raw days = 1 := if_pos (.inr h)
      have e1 : lvLo em fu er dr raw days = 0 := if_neg (by rw [hE]; decide)
      have e2 : lvHi em fu er dr raw days = 0 := if_neg (by rw [hE]; decide)
      rw [hE, e1, e2]
      exact level_range em fu er dr raw days w hc h
    · by_cases g : em < raw - (er + dr * days) ∨ raw + (er + dr * days) < fu
      · have hE : lvE em fu er dr raw days = 10 := by unfold lvE; rw [if_neg (fun x => x.elim (fun y => y hc) h), if_pos g]
        have e1 : lvLo em fu er dr raw days = 0 := if_neg (by rw [hE]; decide)
        have e2 : lvHi em fu er dr raw days = 0 := if_neg (by rw [hE]; decide)
        rw [hE, e1, e2]
        exact level_empty em fu er dr raw days w hc (by omega) (by omega) (by omega) (by omega) g
      · have hE : lvE em fu er dr raw days = 0 := by unfold lvE; rw [if_neg (fun x => x.elim (fun y => y hc) h), if_neg g]
        have e1 : lvLo em fu er dr raw days = _ := if_pos hE
        have e2 : lvHi em fu er dr raw days = _ := if_pos hE
        rw [hE, e1, e2]
        exact level_ok em fu er dr raw days w hc (by omega) (by omega) (by omega) (by omega) (by omega) (by omega)
  · have hE : lvE em fu er dr raw days = 1 := if_pos (.inl (by rw [hc]; decide))
    have e1 : lvLo em fu er dr raw days = 0 := if_neg (by rw [hE]; decide)
    have e2 : lvHi em fu er dr raw days = 0 := if_neg (by rw [hE]; decide)
    rw [hE, e1, e2]
    exact level_bad em fu er dr raw days w hc
def massBad (g lo hi : Int) : Prop := g < 1 ∨ 1073741824 < g ∨ lo < 0 ∨ hi < lo ∨ 1000 < hi
instance (g lo hi : Int) : Decidable (massBad g lo hi) := by unfold massBad; infer_instance
def massL (g lo : Int) : Int := if 0 < lo then (lo - 1) * g / 1000 + 1 else 0
def massE (g lo hi : Int) : Int := if massBad g lo hi then 1 else if hi * g / 1000 < massL g lo then 10 else 0
def massLo (g lo hi : Int) : Int := if massE g lo hi = 0 then massL g lo else 0
def massHi (g lo hi : Int) : Int := if massE g lo hi = 0 then hi * g / 1000 else 0

set_option maxRecDepth 100000 in
set_option maxHeartbeats 800000 in
theorem mass_bad (id : ByteArray) (kind lit g node lo hi : Int) (w : World) (h : massBad g lo hi) :
    Calls Try.prog 8 #[.agg #[.string id, .int .i64 kind, .int .i64 lit, .int .i64 g, .int .i64 node], .agg #[.int .i64 lo, .int .i64 hi]] w fun e w' => e = .returned (.tuple #[.agg #[.int .i64 0, .int .i64 0], .int .i64 1]) ∧ Below w.heap.size w w' := by
  have hh : g < 1 ∨ (1 ≤ g ∧ 1073741824 < g) ∨ (1 ≤ g ∧ g ≤ 1073741824 ∧ lo < 0) ∨ (1 ≤ g ∧ g ≤ 1073741824 ∧ 0 ≤ lo ∧ hi < lo) ∨ (1 ≤ g ∧ g ≤ 1073741824 ∧ 0 ≤ lo ∧ lo ≤ hi ∧ 1000 < hi) := by
    unfold massBad at h; omega
  clear h
  rcases hh with h1 | ⟨h1, h2⟩ | ⟨h1, h2, h3⟩ | ⟨h1, h2, h3, h4⟩ | ⟨h1, h2, h3, h4, h5⟩
  all_goals
    go_enter Try.func8, Try.ntmps8
    go_wp2
    refine bodyPost_ret (v := .tuple #[.agg #[.int .i64 0, .int .i64 0], .int .i64 1]) (by simp [results, Try.results8, go_sem]) rfl ⟨rfl, ?_⟩
    go_grown

set_option maxRecDepth 100000 in
set_option maxHeartbeats 1600000 in
theorem mass_in (id : ByteArray) (kind lit g node lo hi : Int) (w : World) (h1 : 1 ≤ g) (h2 : g ≤ 1073741824) (h3 : 0 ≤ lo) (h4 : lo ≤ hi) (h5 : hi ≤ 1000) :
    Calls Try.prog 8 #[.agg #[.string id, .int .i64 kind, .int .i64 lit, .int .i64 g, .int .i64 node], .agg #[.int .i64 lo, .int .i64 hi]] w fun e w' => e = .returned (.tuple #[.agg #[.int .i64 (massLo g lo hi), .int .i64 (massHi g lo hi)], .int .i64 (massE g lo hi)]) ∧ Below w.heap.size w w' := by
  have hb : ¬ massBad g lo hi := by unfold massBad; omega
  obtain ⟨p0, p1⟩ := prod_bd hi g (by omega) h5 h1 h2
  by_cases g1 : 0 < lo
  · obtain ⟨p2, p3⟩ := prod_bd (lo - 1) g (by omega) (by omega) h1 h2
    have eL : massL g lo = (lo - 1) * g / 1000 + 1 := if_pos g1
    by_cases g2 : hi * g / 1000 < (lo - 1) * g / 1000 + 1
    · have hE : massE g lo hi = 10 := by unfold massE; rw [if_neg hb, eL, if_pos g2]
      have e1 : massLo g lo hi = 0 := if_neg (by rw [hE]; decide)
      have e2 : massHi g lo hi = 0 := if_neg (by rw [hE]; decide)
      rw [hE, e1, e2]
      clear hE e1 e2 hb eL
      go_enter Try.func8, Try.ntmps8
      go_wp2
      refine bodyPost_ret (v := .tuple #[.agg #[.int .i64 0, .int .i64 0], .int .i64 10]) (by simp [results, Try.results8, go_sem]) rfl ⟨rfl, ?_⟩
      go_grown
    · have hE : massE g lo hi = 0 := by unfold massE; rw [if_neg hb, eL, if_neg g2]
      have e1 : massLo g lo hi = ((lo - 1) * g / 1000 + 1) := (if_pos hE).trans eL
      have e2 : massHi g lo hi = (hi * g / 1000) := if_pos hE
      rw [hE, e1, e2]
      clear hE e1 e2 hb eL
      go_enter Try.func8, Try.ntmps8
      go_wp2
      refine bodyPost_ret (v := .tuple #[.agg #[.int .i64 ((lo - 1) * g / 1000 + 1), .int .i64 (hi * g / 1000)], .int .i64 0]) (by simp [results, Try.results8, go_sem]) rfl ⟨rfl, ?_⟩
      go_grown
  · have eL : massL g lo = 0 := if_neg g1
    obtain rfl : lo = 0 := by omega
    · have hE : massE g 0 hi = 0 := by unfold massE; rw [if_neg hb, eL, if_neg (by omega)]
      have e1 : massLo g 0 hi = 0 := (if_pos hE).trans eL
      have e2 : massHi g 0 hi = (hi * g / 1000) := if_pos hE
      rw [hE, e1, e2]
      clear hE e1 e2 hb eL
      go_enter Try.func8, Try.ntmps8
      go_wp2
      refine bodyPost_ret (v := .tuple #[.agg #[.int .i64 0, .int .i64 (hi * g / 1000)], .int .i64 0]) (by simp [results, Try.results8, go_sem]) rfl ⟨rfl, ?_⟩
      go_grown
theorem mass_any (id : ByteArray) (kind lit g node lo hi : Int) (w : World) :
    Calls Try.prog 8 #[.agg #[.string id, .int .i64 kind, .int .i64 lit, .int .i64 g, .int .i64 node], .agg #[.int .i64 lo, .int .i64 hi]] w fun e w' => e = .returned (.tuple #[.agg #[.int .i64 (massLo g lo hi), .int .i64 (massHi g lo hi)], .int .i64 (massE g lo hi)]) ∧ Below w.heap.size w w' := by
  by_cases h : massBad g lo hi
  · have hE : massE g lo hi = 1 := if_pos h
    have e1 : massLo g lo hi = 0 := if_neg (by rw [hE]; decide)
    have e2 : massHi g lo hi = 0 := if_neg (by rw [hE]; decide)
    rw [hE, e1, e2]
    exact mass_bad id kind lit g node lo hi w h
  · unfold massBad at h
    exact mass_in id kind lit g node lo hi w (by omega) (by omega) (by omega) (by omega) (by omega)
theorem lv_ok {em fu er dr raw days : Int} (h : lvE em fu er dr raw days = 0) : chkE em fu er dr = 0 ∧ 0 ≤ raw ∧ raw ≤ 100000 ∧ 0 ≤ days ∧ days ≤ 36524 ∧ raw - (er + dr * days) ≤ em ∧ fu ≤ raw + (er + dr * days) := by
  unfold lvE at h
  split at h
  · simp at h
  · split at h
    · simp at h
    · omega
theorem chk_in {em fu er dr : Int} (h : chkE em fu er dr = 0) : 0 ≤ fu ∧ fu < em ∧ em ≤ 10000 ∧ 0 ≤ er ∧ er ≤ 1000 ∧ 0 ≤ dr ∧ dr ≤ 100 := by
  unfold chkE at h
  split at h
  · simp at h
  · omega
theorem ceil_le' {a b c : Int} (hb : 1 ≤ b) (h : a ≤ c * b) : (a + b - 1) / b ≤ c := by
  have : (a + b - 1) / b < c + 1 := Int.ediv_lt_of_lt_mul (by omega) (by
    have e : (c + 1) * b = c * b + b := by rw [Int.add_mul, Int.one_mul]
    omega)
  omega
theorem ceil_ge {a b : Int} (hb : 1 ≤ b) : a ≤ (a + b - 1) / b * b := by
  have h1 := Int.lt_ediv_add_one_mul_self (a + b - 1) (show 0 < b by omega)
  have e : ((a + b - 1) / b + 1) * b = (a + b - 1) / b * b + b := by rw [Int.add_mul, Int.one_mul]
  omega
/-- what has a level in an interval has a mass in the interval of masses -/
theorem sound2 {g x lo hi : Int} (hE : levE g x = 0) (hx : x ≤ g) (h1 : lo ≤ levV g x) (h2 : levV g x ≤ hi) (h3 : 0 ≤ lo) (h4 : hi ≤ 1000) : massE g lo hi = 0 ∧ massLo g lo hi ≤ x ∧ x ≤ massHi g lo hi := by
  have hb : ¬ levB g x := by
    intro h
    unfold levE at hE
    rw [if_pos h] at hE
    cases hE
  have hv : levV g x = min ((x * 1000 + g - 1) / g) 1000 := if_neg hb
  unfold levB at hb
  have b1 : 1 ≤ g := by omega
  have b2 : g ≤ 1073741824 := by omega
  have b3 : 0 ≤ x := by omega
  have hq := ceil_ge (a := x * 1000) b1
  have hle := ceil_le' (a := x * 1000) (b := g) (c := 1000) b1 (by omega)
  have hlt := Int.ediv_mul_le (x * 1000 + g - 1) (show g ≠ 0 by omega)
  rw [hv] at h1 h2
  generalize (x * 1000 + g - 1) / g = v at *
  have hmin : min v 1000 = v := by omega
  rw [hmin] at h1 h2
  have p1 : v * g ≤ hi * g := Int.mul_le_mul_of_nonneg_right h2 (by omega)
  have p2 : lo * g ≤ v * g := Int.mul_le_mul_of_nonneg_right h1 (by omega)
  have hM : ¬ massBad g lo hi := by unfold massBad; omega
  have hL : massL g lo ≤ x := by
    unfold massL
    split
    · have e : (lo - 1) * g = lo * g - g := by rw [Int.sub_mul, Int.one_mul]
      have : (lo - 1) * g / 1000 < x := Int.ediv_lt_of_lt_mul (by omega) (by omega)
      omega
    · exact b3
  have hH : x ≤ hi * g / 1000 := (Int.le_ediv_iff_mul_le (by omega)).2 (by omega)
  have hEm : massE g lo hi = 0 := by
    unfold massE
    rw [if_neg hM, if_neg (by omega)]
  refine ⟨hEm, ?_, ?_⟩
  · unfold massLo; rw [if_pos hEm]; exact hL
  · unfold massHi; rw [if_pos hEm]; exact hH
theorem lv_range {em fu er dr raw days : Int} (h : lvE em fu er dr raw days = 0) : 0 ≤ lvLo em fu er dr raw days ∧ lvHi em fu er dr raw days ≤ 1000 := by
  obtain ⟨hc, _⟩ := lv_ok h
  obtain ⟨k1, k2, k3, _⟩ := chk_in hc
  rw [show lvLo em fu er dr raw days = (em - min (max (raw + (er + dr * days)) fu) em) * 1000 / (em - fu) from if_pos h, show lvHi em fu er dr raw days = ((em - min (max (raw - (er + dr * days)) fu) em) * 1000 + (em - fu) - 1) / (em - fu) from if_pos h]
  refine ⟨Int.ediv_nonneg (by omega) (by omega), ?_⟩
  have := ceil_le' (a := (em - min (max (raw - (er + dr * days)) fu) em) * 1000) (b := em - fu) (c := 1000) (by omega) (by omega)
  exact this
theorem mass_hi {g lo hi : Int} (h : massE g lo hi = 0) : 0 ≤ massLo g lo hi ∧ massLo g lo hi ≤ massHi g lo hi ∧ massHi g lo hi ≤ g := by
  have hM : ¬ massBad g lo hi := by
    intro hb
    unfold massE at h
    rw [if_pos hb] at h
    cases h
  have h2 : ¬ hi * g / 1000 < massL g lo := by
    intro hb
    unfold massE at h
    rw [if_neg hM, if_pos hb] at h
    cases h
  rw [show massLo g lo hi = massL g lo from if_pos h, show massHi g lo hi = hi * g / 1000 from if_pos h]
  unfold massBad at hM
  refine ⟨?_, by omega, ?_⟩
  · unfold massL
    split
    · have : 0 ≤ (lo - 1) * g / 1000 := Int.ediv_nonneg (Int.mul_nonneg (by omega) (by omega)) (by omega)
      omega
    · exact Int.le_refl _
  · have : hi * g ≤ 1000 * g := Int.mul_le_mul_of_nonneg_right (by omega) (by omega)
    omega
end Go.Proofs.Ytmkbgjilkdbmiaa.Fi
