/- The contracts of Later and Both of package fill and of the reference. -/
import Derived.Test.YtopdcngplcoejaaFill2
namespace Go.Proofs.Ytopdcngplcoejaa
open Go.RowKit

def laterBad (lo hi mn mx secs most : Int) : Bool := !estB lo hi || !estB mn mx || decide (secs < 0) || decide (3155759999 < secs) || decide (most < 0) || decide (1073741824 < most)
def laterLo (lo hi mn mx secs most : Int) : Int := if laterBad lo hi mn mx secs most = true then 0 else min (lo + mn * secs / 86400) most
def laterHi (lo hi mn mx secs most : Int) : Int := if laterBad lo hi mn mx secs most = true then 0 else min (hi + (mx * secs + 86400 - 1) / 86400) most
def laterE (lo hi mn mx secs most : Int) : Int := if laterBad lo hi mn mx secs most = true then 1 else 0
theorem up_v {a b q : Int} {w : World} (hq : (a + b - 1) / b = q) (h0 : 0 ≤ a) (h1 : a ≤ 9000000000000000000) (h2 : 1 ≤ b) (h3 : b ≤ 1000000) :
    Calls Try.prog 26 #[.int .i64 a, .int .i64 b] w fun e w' => e = .returned (.int .i64 q) ∧ w' = w := by
  have hb := div_bd (a + b - 1) b (by omega) h2
  have HQ := Lib.hid hq
  clear hq
  go_enter Try.func26, Try.ntmps26
  go_wp2
  go_ret
  exact ⟨ret_int HQ.out, rfl⟩
theorem rup_v {a b q : Int} {w : World} (hq : (a + b - 1) / b = q) (h0 : 0 ≤ a) (h1 : a ≤ 9000000000000000000) (h2 : 1 ≤ b) (h3 : b ≤ 1000000) :
    Calls Try.prog 27 #[.int .i64 a, .int .i64 b] w fun e w' => e = .returned (.int .i64 q) ∧ w' = w := by
  have hb := div_bd (a + b - 1) b (by omega) h2
  have HQ := Lib.hid hq
  clear hq
  go_enter Try.func27, Try.ntmps27
  go_wp2
  go_ret
  exact ⟨ret_int HQ.out, rfl⟩

set_option maxRecDepth 100000 in
set_option maxHeartbeats 800000 in
theorem later_bad (lo hi mn mx secs most : Int) (w : World) (h : laterBad lo hi mn mx secs most = true) :
    Calls Try.prog 18 #[.agg #[.int .i64 lo, .int .i64 hi], .agg #[.int .i64 mn, .int .i64 mx], .int .i64 secs, .int .i64 most] w fun e w' => e = .returned (.tuple #[.agg #[.int .i64 0, .int .i64 0], .int .i64 1]) ∧ Below w.heap.size w w' := by
  cases h1 : estB lo hi
  · have H1 := Lib.hid h1
    clear h1 h
    go_enter Try.func18, Try.ntmps18
    go_wp2_with fail
    refine (estimate_any _ _ _).mono ?_
    rw [H1.out]
    rintro e w1 ⟨rfl, rfl⟩
    go_wp2_with fail
    refine bodyPost_ret (v := .tuple #[.agg #[.int .i64 0, .int .i64 0], .int .i64 1]) (by simp [results, Try.results18, go_sem]) rfl ⟨rfl, ?_⟩
    go_grown
  · cases h2 : estB mn mx
    · have H1 := Lib.hid h1
      have H2 := Lib.hid h2
      clear h1 h2 h
      go_enter Try.func18, Try.ntmps18
      go_wp2_with fail
      refine (estimate_any _ _ _).mono ?_
      rw [H1.out]
      rintro e w1 ⟨rfl, rfl⟩
      go_wp2_with fail
      refine (rate_any _ _ _).mono ?_
      rw [H2.out]
      rintro e w1 ⟨rfl, rfl⟩
      go_wp2_with fail
      refine bodyPost_ret (v := .tuple #[.agg #[.int .i64 0, .int .i64 0], .int .i64 1]) (by simp [results, Try.results18, go_sem]) rfl ⟨rfl, ?_⟩
      go_grown
    · have H1 := Lib.hid h1
      have H2 := Lib.hid h2
      have hh : secs < 0 ∨ 3155759999 < secs ∨ most < 0 ∨ 1073741824 < most := by
        simp [laterBad, h1, h2] at h
        omega
      have h3 : secs < 0 ∨ (0 ≤ secs ∧ 3155759999 < secs) ∨ (0 ≤ secs ∧ secs ≤ 3155759999 ∧ most < 0) ∨ (0 ≤ secs ∧ secs ≤ 3155759999 ∧ 0 ≤ most ∧ 1073741824 < most) := by omega
      clear h1 h2 h hh
      rcases h3 with h3 | ⟨h3, h4⟩ | ⟨h3, h4, h5⟩ | ⟨h3, h4, h5, h6⟩
      all_goals
        go_enter Try.func18, Try.ntmps18
        go_wp2_with fail
        refine (estimate_any _ _ _).mono ?_
        rw [H1.out]
        rintro e w1 ⟨rfl, rfl⟩
        go_wp2_with fail
        refine (rate_any _ _ _).mono ?_
        rw [H2.out]
        rintro e w1 ⟨rfl, rfl⟩
        go_wp2_with fail
        refine bodyPost_ret (v := .tuple #[.agg #[.int .i64 0, .int .i64 0], .int .i64 1]) (by simp [results, Try.results18, go_sem]) rfl ⟨rfl, ?_⟩
        go_grown
set_option maxRecDepth 100000 in
set_option maxHeartbeats 1600000 in
theorem later_ok (lo hi mn mx secs most : Int) (w : World) (h1 : estB lo hi = true) (h2 : estB mn mx = true) (h3 : 0 ≤ secs) (h4 : secs ≤ 3155759999) (h5 : 0 ≤ most) (h6 : most ≤ 1073741824) :
    Calls Try.prog 18 #[.agg #[.int .i64 lo, .int .i64 hi], .agg #[.int .i64 mn, .int .i64 mx], .int .i64 secs, .int .i64 most] w fun e w' =>
      e = .returned (.tuple #[.agg #[.int .i64 (min (lo + mn * secs / 86400) most), .int .i64 (min (hi + (mx * secs + 86400 - 1) / 86400) most)], .int .i64 0]) ∧ Below w.heap.size w w' := by
  have a1 := estB_iff.1 h1
  have a2 := estB_iff.1 h2
  have p0 : 0 ≤ mn * secs := Int.mul_nonneg (by omega) h3
  have p1 : mn * secs ≤ 1073741824 * 3155759999 := Int.mul_le_mul (by omega) h4 h3 (by omega)
  have p2 : 0 ≤ mx * secs := Int.mul_nonneg (by omega) h3
  have p3 : mx * secs ≤ 1073741824 * 3155759999 := Int.mul_le_mul (by omega) h4 h3 (by omega)
  have p1' : mn * secs ≤ 3400000000000000000 := by omega
  have p3' : mx * secs ≤ 3400000000000000000 := by omega
  clear p1 p3
  have H1 := Lib.hid h1
  have H2 := Lib.hid h2
  clear h1 h2
  go_enter Try.func18, Try.ntmps18
  go_wp2_with fail
  refine (estimate_any _ _ _).mono ?_
  rw [H1.out]
  rintro e w1 ⟨rfl, rfl⟩
  go_wp2_with fail
  refine (rate_any _ _ _).mono ?_
  rw [H2.out]
  rintro e w1 ⟨rfl, rfl⟩
  go_wp2_with fail
  have hbW : Below w.heap.size w (((((w.alloc (.cells #[.int .i64 lo, .int .i64 hi] 25)).alloc (.cells #[.int .i64 mn, .int .i64 mx] 37)).alloc (.cells #[.int .i64 0, .int .i64 0] 25)).alloc (.cells #[.int .i64 lo, .int .i64 hi] 25)).alloc (.cells #[.int .i64 mn, .int .i64 mx] 37)) := by go_grown
  have k0 := ((((Blk.new w 25 #[.int .i64 lo, .int .i64 hi]).alloc (.cells #[.int .i64 mn, .int .i64 mx] 37)).alloc (.cells #[.int .i64 0, .int .i64 0] 25)).alloc (.cells #[.int .i64 lo, .int .i64 hi] 25)).alloc (.cells #[.int .i64 mn, .int .i64 mx] 37)
  have k1 := (((Blk.new1 w (.cells #[.int .i64 lo, .int .i64 hi] 25) 37 #[.int .i64 mn, .int .i64 mx]).alloc (.cells #[.int .i64 0, .int .i64 0] 25)).alloc (.cells #[.int .i64 lo, .int .i64 hi] 25)).alloc (.cells #[.int .i64 mn, .int .i64 mx] 37)
  have k2 := ((Blk.new2 w (.cells #[.int .i64 lo, .int .i64 hi] 25) (.cells #[.int .i64 mn, .int .i64 mx] 37) 25 #[.int .i64 0, .int .i64 0]).alloc (.cells #[.int .i64 lo, .int .i64 hi] 25)).alloc (.cells #[.int .i64 mn, .int .i64 mx] 37)
  generalize (((((w.alloc (.cells #[.int .i64 lo, .int .i64 hi] 25)).alloc (.cells #[.int .i64 mn, .int .i64 mx] 37)).alloc (.cells #[.int .i64 0, .int .i64 0] 25)).alloc (.cells #[.int .i64 lo, .int .i64 hi] 25)).alloc (.cells #[.int .i64 mn, .int .i64 mx] 37)) = W at *
  have c0 := k0.cell 0
  have c1 := k0.cell 1
  have c2 := k1.cell 0
  have c3 := k1.cell 1
  have c4 := k2.cell 0
  have c5 := k2.cell 1
  have f4 := k2.frozen 0
  have f5 := k2.frozen 1
  simp at c0 c1 c2 c3 c4 c5
  have HK2 := Lib.hid k2
  have HBW := Lib.hid hbW
  clear k0 k1 k2 hbW
  generalize hp : mn * secs = p at *
  generalize hq : mx * secs = q at *
  generalize hd : p / 86400 = d at *
  generalize hu : (q + 86400 - 1) / 86400 = u at *
  have d0 : 0 ≤ d := by omega
  have d1 : d ≤ 3400000000000000000 := by omega
  have u0 : 0 ≤ u := by omega
  have u1 : u ≤ 3400000000000000000 := by omega
  have s1 : IntKind.i64.wrap (mn * secs) = p := by rw [hp]; exact IntWalk.i64_in _ (by omega)
  have s2 : p.tdiv 86400 = d := by rw [Int.tdiv_eq_ediv_of_nonneg (by omega)]; exact hd
  have s3 : IntKind.i64.wrap d = d := IntWalk.i64_in _ (by omega)
  have s4 : IntKind.i64.wrap (lo + d) = lo + d := IntWalk.i64_in _ (by omega)
  have s5 : IntKind.i64.wrap (mx * secs) = q := by rw [hq]; exact IntWalk.i64_in _ (by omega)
  have s6 : IntKind.i64.wrap (hi + u) = hi + u := IntWalk.i64_in _ (by omega)
  have hup : Hid ((q + 86400 - 1) / 86400 = u) := Lib.hid hu
  have p3 : q ≤ 9000000000000000000 := by omega
  have HP := Lib.hid hp
  have HQ := Lib.hid hq
  have HD := Lib.hid hd
  clear hp hq hd hu
  obtain ⟨m1, hm1⟩ : ∃ m1, min (lo + d) most = m1 := ⟨_, rfl⟩
  obtain ⟨m2, hm2⟩ : ∃ m2, min (hi + u) most = m2 := ⟨_, rfl⟩
  have HM1 := Lib.hid hm1
  have HM2 := Lib.hid hm2
  by_cases g1 : most < lo + d
  · have HA : Hid (m1 = most) := Lib.hid (by omega)
    by_cases g2 : most < hi + u
    · have HB : Hid (m2 = most) := Lib.hid (by omega)
      clear hm1 hm2
      refine wp_region_still_tail 21 (by kernel_rfl) (by kernel_rfl) ?_
      simp only [List.take_succ_cons, List.take_zero, List.drop_succ_cons, List.drop_zero]
      repeat still_step
      still_call (up_v hup.out p2 p3 (by decide) (by decide))
      repeat still_step
      refine wpStill_nil ?_
      clear s1 s2 s3 s4 s5 s6
      go_wp2
      have e0 := ((HK2.out.set_ 0 (.int .i64 (most))).set_ 1 (.int .i64 (most))).cell 0
      have e1 := ((HK2.out.set_ 0 (.int .i64 (most))).set_ 1 (.int .i64 (most))).cell 1
      simp at e0 e1
      refine bodyPost_ret (v := .tuple #[.agg #[.int .i64 (most), .int .i64 (most)], .int .i64 0]) (by simp [results, Try.results18, go_sem, e0, e1]) rfl ⟨?_, ?_⟩
      · rw [HP.out, HQ.out, HD.out, hup.out, HM1.out, HM2.out, HA.out, HB.out]
      · exact (((HBW.out.setCell (by simp; omega) _).setCell (by simp; omega) _).drew)
    · have HB : Hid (m2 = hi + u) := Lib.hid (by omega)
      clear hm1 hm2
      refine wp_region_still_tail 21 (by kernel_rfl) (by kernel_rfl) ?_
      simp only [List.take_succ_cons, List.take_zero, List.drop_succ_cons, List.drop_zero]
      repeat still_step
      still_call (up_v hup.out p2 p3 (by decide) (by decide))
      repeat still_step
      refine wpStill_nil ?_
      clear s1 s2 s3 s4 s5 s6
      go_wp2
      have e0 := ((HK2.out.set_ 0 (.int .i64 (most))).set_ 1 (.int .i64 (hi + u))).cell 0
      have e1 := ((HK2.out.set_ 0 (.int .i64 (most))).set_ 1 (.int .i64 (hi + u))).cell 1
      simp at e0 e1
      refine bodyPost_ret (v := .tuple #[.agg #[.int .i64 (most), .int .i64 (hi + u)], .int .i64 0]) (by simp [results, Try.results18, go_sem, e0, e1]) rfl ⟨?_, ?_⟩
      · rw [HP.out, HQ.out, HD.out, hup.out, HM1.out, HM2.out, HA.out, HB.out]
      · exact (((HBW.out.setCell (by simp; omega) _).setCell (by simp; omega) _).drew)
  · have HA : Hid (m1 = lo + d) := Lib.hid (by omega)
    by_cases g2 : most < hi + u
    · have HB : Hid (m2 = most) := Lib.hid (by omega)
      clear hm1 hm2
      refine wp_region_still_tail 21 (by kernel_rfl) (by kernel_rfl) ?_
      simp only [List.take_succ_cons, List.take_zero, List.drop_succ_cons, List.drop_zero]
      repeat still_step
      still_call (up_v hup.out p2 p3 (by decide) (by decide))
      repeat still_step
      refine wpStill_nil ?_
      clear s1 s2 s3 s4 s5 s6
      go_wp2
      have e0 := ((HK2.out.set_ 0 (.int .i64 (lo + d))).set_ 1 (.int .i64 (most))).cell 0
      have e1 := ((HK2.out.set_ 0 (.int .i64 (lo + d))).set_ 1 (.int .i64 (most))).cell 1
      simp at e0 e1
      refine bodyPost_ret (v := .tuple #[.agg #[.int .i64 (lo + d), .int .i64 (most)], .int .i64 0]) (by simp [results, Try.results18, go_sem, e0, e1]) rfl ⟨?_, ?_⟩
      · rw [HP.out, HQ.out, HD.out, hup.out, HM1.out, HM2.out, HA.out, HB.out]
      · exact (((HBW.out.setCell (by simp; omega) _).setCell (by simp; omega) _).drew)
    · have HB : Hid (m2 = hi + u) := Lib.hid (by omega)
      clear hm1 hm2
      refine wp_region_still_tail 21 (by kernel_rfl) (by kernel_rfl) ?_
      simp only [List.take_succ_cons, List.take_zero, List.drop_succ_cons, List.drop_zero]
      repeat still_step
      still_call (up_v hup.out p2 p3 (by decide) (by decide))
      repeat still_step
      refine wpStill_nil ?_
      clear s1 s2 s3 s4 s5 s6
      go_wp2
      have e0 := ((HK2.out.set_ 0 (.int .i64 (lo + d))).set_ 1 (.int .i64 (hi + u))).cell 0
      have e1 := ((HK2.out.set_ 0 (.int .i64 (lo + d))).set_ 1 (.int .i64 (hi + u))).cell 1
      simp at e0 e1
      refine bodyPost_ret (v := .tuple #[.agg #[.int .i64 (lo + d), .int .i64 (hi + u)], .int .i64 0]) (by simp [results, Try.results18, go_sem, e0, e1]) rfl ⟨?_, ?_⟩
      · rw [HP.out, HQ.out, HD.out, hup.out, HM1.out, HM2.out, HA.out, HB.out]
      · exact (((HBW.out.setCell (by simp; omega) _).setCell (by simp; omega) _).drew)

theorem later_any (lo hi mn mx secs most : Int) (w : World) :
    Calls Try.prog 18 #[.agg #[.int .i64 lo, .int .i64 hi], .agg #[.int .i64 mn, .int .i64 mx], .int .i64 secs, .int .i64 most] w fun e w' =>
      e = .returned (.tuple #[.agg #[.int .i64 (laterLo lo hi mn mx secs most), .int .i64 (laterHi lo hi mn mx secs most)], .int .i64 (laterE lo hi mn mx secs most)]) ∧ Below w.heap.size w w' := by
  cases h : laterBad lo hi mn mx secs most
  · have e1 : laterLo lo hi mn mx secs most = _ := if_neg (by rw [h]; decide)
    have e2 : laterHi lo hi mn mx secs most = _ := if_neg (by rw [h]; decide)
    have e3 : laterE lo hi mn mx secs most = 0 := if_neg (by rw [h]; decide)
    rw [e1, e2, e3]
    simp [laterBad] at h
    exact later_ok lo hi mn mx secs most w h.1.1.1.1.1 h.1.1.1.1.2 (by omega) (by omega) (by omega) (by omega)
  · have e1 : laterLo lo hi mn mx secs most = 0 := if_pos h
    have e2 : laterHi lo hi mn mx secs most = 0 := if_pos h
    have e3 : laterE lo hi mn mx secs most = 1 := if_pos h
    rw [e1, e2, e3]
    exact later_bad lo hi mn mx secs most w h
end Go.Proofs.Ytopdcngplcoejaa
