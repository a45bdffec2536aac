/- Legs of ways: contracts of road.none, after, forward, better and of the order of spread's queue. -/
import Derived.Test.YtmoakdplhfgipaaPrb
import Derived.Lib.QuietBelow
import Derived.BigQuiet
namespace Go.Proofs.Ytmoakdplhfgipaa
set_option maxRecDepth 20000
open Go.RowKit Go.Maps

theorem rnone_any (w : World) : Calls Try.prog 34 #[] w fun e w' => e = .returned (.agg #[.int .i64 (-1), .int .i64 0]) ∧ Below w.heap.size w w' := by
  have K := Blk.new w 50 #[.int .i64 0, .int .i64 0]
  have HK := Lib.hid K
  have c0 := K.cell 0
  have c1 := K.cell 1
  simp at c0 c1
  have f0 := K.frozen 0
  have f1 := K.frozen 1
  clear K
  go_enter Try.func34, Try.ntmps34
  go_wp2
  have d0 := ((HK.out.set_ 0 (.int .i64 (-1))).set_ 1 (.int .i64 0)).cell 0
  have d1 := ((HK.out.set_ 0 (.int .i64 (-1))).set_ 1 (.int .i64 0)).cell 1
  simp at d0 d1
  refine bodyPost_ret (v := .agg #[.int .i64 (-1), .int .i64 0]) (by simp [results, Try.results34, go_sem, d0, d1]) rfl ⟨rfl, by go_grown⟩

theorem after_any (s m f t em es : Int) (w : World) (h1 : 0 ≤ s) (h2 : s ≤ 1000000000000) (h3 : 0 ≤ m) (h4 : m ≤ 1000000000000) (g1 : 1 ≤ em) (g2 : em ≤ 100000) (g3 : 1 ≤ es) (g4 : es ≤ 100000) :
    Calls Try.prog 40 #[.agg #[.int .i64 s, .int .i64 m], .agg #[.int .i64 f, .int .i64 t, .int .i64 em, .int .i64 es]] w fun e w' => e = .returned (.agg #[.int .i64 (s + es), .int .i64 (m + em)]) ∧ Below w.heap.size w w' := by
  go_enter Try.func40, Try.ntmps40
  go_wp2
  have K := Blk.new_at ((w.alloc (.cells #[.int .i64 s, .int .i64 m] 50)).alloc (.cells #[.int .i64 f, .int .i64 t, .int .i64 em, .int .i64 es] 56)) 50 #[.int .i64 (s + es), .int .i64 (m + em)] (k := w.heap.size + 1 + 1) (by simp)
  have d0 := K.cell 0
  have d1 := K.cell 1
  simp at d0 d1
  refine bodyPost_ret (v := .agg #[.int .i64 (s + es), .int .i64 (m + em)]) (by simp [results, Try.results40, go_sem, d0, d1]) rfl ⟨rfl, by go_grown⟩
theorem forward_any (f t em es : Int) (w : World) :
    Calls Try.prog 18 #[.agg #[.int .i64 f, .int .i64 t, .int .i64 em, .int .i64 es]] w fun e w' => e = .returned (.tuple #[.int .i64 f, .int .i64 t]) ∧ Below w.heap.size w w' := by
  go_enter Try.func18, Try.ntmps18
  go_wp2_with fail
  go_quiet (fail)
  go_wp2
  go_ret2
  exact ⟨rfl, belowN (by go_grown) _⟩
def betB (s m s' m' : Int) : Bool := (decide (s' = -1) && decide (m' = 0)) || decide (s < s') || (decide (s = s') && decide (m < m'))

theorem rnone_q {w : World} (d : Nat) (os : Array Obj) : Calls Try.prog 34 #[] (Go.Sort.grow (redrawn w d) os) fun e w'' => e = .returned (.agg #[.int .i64 (-1), .int .i64 0]) ∧ ∃ p : Regrown, w'' = Go.Sort.grow (redrawn w p.d) p.os := Calls.regrown_of (rnone_any _)

theorem better_any (s m s' m' : Int) (w : World) :
    Calls Try.prog 37 #[.agg #[.int .i64 s, .int .i64 m], .agg #[.int .i64 s', .int .i64 m']] w fun e w' => e = .returned (.bool (betB s m s' m')) ∧ Below w.heap.size w w' := by
  obtain ⟨w0, hw0⟩ : ∃ w0, (w.alloc (.cells #[.int .i64 s, .int .i64 m] 50)).alloc (.cells #[.int .i64 s', .int .i64 m'] 50) = w0 := ⟨_, rfl⟩
  have k1 : Blk w0 w.heap.size 50 #[.int .i64 s, .int .i64 m] := by rw [← hw0]; exact (Blk.new _ _ _).alloc _
  have k2 : Blk w0 (w.heap.size + 1) 50 #[.int .i64 s', .int .i64 m'] := by rw [← hw0]; exact Blk.new_at _ _ _ (by simp)
  have hb0 : Below w.heap.size w w0 := by rw [← hw0]; go_grown
  have HB := Lib.hid hb0
  have z1 := k1.lt
  have z2 := k2.lt
  have q0 := cell_regrown (k1.cell 0)
  have q1 := cell_regrown (k1.cell 1)
  have q2 := cell_regrown (k2.cell 0)
  have q3 := cell_regrown (k2.cell 1)
  simp at q0 q1 q2 q3
  clear hb0 k1 k2
  go_enter Try.func37, Try.ntmps37
  go_wp2_with fail
  clear hw0
  go_upto_region 1 with fail
  by_cases a1 : s' = -1
  · by_cases a2 : m' = 0
    · subst a1
      subst a2
      refine wp_region_quiet_below (by kernel_rfl) (by kernel_rfl) ?_
      repeat (go_big_quiet_step (exact rnone_q _ _))
      refine wpQuiet_nil ?_
      intro _ hw'
      obtain ⟨⟨dq, osq⟩, hw''⟩ := hw'
      subst hw''
      go_wp2
      go_ret
      exact ⟨ret_bool (by simp [betB]), bthen HB.out (below_regrown _ dq osq) HB.out.size⟩
    · have d1 : (m' == 0) = false := by simpa using a2
      subst a1
      rcases Int.lt_trichotomy s (-1) with l | l | l
      · refine wp_region_quiet_below (by kernel_rfl) (by kernel_rfl) ?_
        repeat (go_big_quiet_step (exact rnone_q _ _))
        refine wpQuiet_nil ?_
        intro _ hw'
        obtain ⟨⟨dq, osq⟩, hw''⟩ := hw'
        subst hw''
        go_wp2
        go_ret
        exact ⟨ret_bool (by simp [betB, a2]; omega), bthen HB.out (below_regrown _ dq osq) HB.out.size⟩
      · subst l
        by_cases l2 : m < m'
        all_goals
          refine wp_region_quiet_below (by kernel_rfl) (by kernel_rfl) ?_
          repeat (go_big_quiet_step (exact rnone_q _ _))
          refine wpQuiet_nil ?_
          intro _ hw'
          obtain ⟨⟨dq, osq⟩, hw''⟩ := hw'
          subst hw''
          go_wp2
          go_ret
          exact ⟨ret_bool (by simp [betB, a2]; try omega), bthen HB.out (below_regrown _ dq osq) HB.out.size⟩
      · have l3 : (s == -1) = false := by simp; omega
        have l4 : decide (s < -1) = false := by simp; omega
        have l5 : 0 ≤ s := by omega
        refine wp_region_quiet_below (by kernel_rfl) (by kernel_rfl) ?_
        repeat (go_big_quiet_step (exact rnone_q _ _))
        refine wpQuiet_nil ?_
        intro _ hw'
        obtain ⟨⟨dq, osq⟩, hw''⟩ := hw'
        subst hw''
        go_wp2
        go_ret
        exact ⟨ret_bool (by simp [betB, a2]; omega), bthen HB.out (below_regrown _ dq osq) HB.out.size⟩
  · have d1 : (s' == -1) = false := by simpa using a1
    rcases Int.lt_trichotomy s s' with l | l | l
    · refine wp_region_quiet_below (by kernel_rfl) (by kernel_rfl) ?_
      repeat (go_big_quiet_step (exact rnone_q _ _))
      refine wpQuiet_nil ?_
      intro _ hw'
      obtain ⟨⟨dq, osq⟩, hw''⟩ := hw'
      subst hw''
      go_wp2
      go_ret
      exact ⟨ret_bool (by simp [betB, a1]; omega), bthen HB.out (below_regrown _ dq osq) HB.out.size⟩
    · subst l
      by_cases l2 : m < m'
      all_goals
        refine wp_region_quiet_below (by kernel_rfl) (by kernel_rfl) ?_
        repeat (go_big_quiet_step (exact rnone_q _ _))
        refine wpQuiet_nil ?_
        intro _ hw'
        obtain ⟨⟨dq, osq⟩, hw''⟩ := hw'
        subst hw''
        go_wp2
        go_ret
        exact ⟨ret_bool (by simp [betB, a1]; try omega), bthen HB.out (below_regrown _ dq osq) HB.out.size⟩
    · have l3 : (s == s') = false := by simp; omega
      have l4 : decide (s < s') = false := by simp; omega
      refine wp_region_quiet_below (by kernel_rfl) (by kernel_rfl) ?_
      repeat (go_big_quiet_step (exact rnone_q _ _))
      refine wpQuiet_nil ?_
      intro _ hw'
      obtain ⟨⟨dq, osq⟩, hw''⟩ := hw'
      subst hw''
      go_wp2
      go_ret
      exact ⟨ret_bool (by simp [betB, a1]; omega), bthen HB.out (below_regrown _ dq osq) HB.out.size⟩

/-- the order of spread's queue: some answer -/
theorem less_any (x s m y s' m' : Int) (w : World) :
    Calls Try.prog 36 #[.agg #[.int .i64 x, .int .i64 s, .int .i64 m], .agg #[.int .i64 y, .int .i64 s', .int .i64 m']] w fun e w' => e = .returned (.bool (!(decide (s = s') && decide (m = m')) && betB s m s' m')) ∧ Below w.heap.size w w' := by
  by_cases a1 : s = s'
  · by_cases a2 : m = m'
    · subst a1
      subst a2
      go_enter Try.func36, Try.ntmps36
      go_wp2_with fail
      go_ret
      exact ⟨ret_bool (by simp), by go_grown⟩
    · have d1 : (m == m') = false := by simpa using a2
      subst a1
      go_enter Try.func36, Try.ntmps36
      go_wp2_with fail
      refine (better_any _ _ _ _ _).mono ?_
      rintro e w1 ⟨rfl, hb1⟩
      have HB : Hid (Below w.heap.size w w1) := Lib.hid (bthen (by go_grown) hb1 (by simp; omega))
      clear hb1
      go_wp2
      go_ret
      exact ⟨ret_bool (by simp [a2]), HB.out⟩
  · have d1 : (s == s') = false := by simpa using a1
    go_enter Try.func36, Try.ntmps36
    go_wp2_with fail
    refine (better_any _ _ _ _ _).mono ?_
    rintro e w1 ⟨rfl, hb1⟩
    have HB : Hid (Below w.heap.size w w1) := Lib.hid (bthen (by go_grown) hb1 (by simp; omega))
    clear hb1
    go_wp2
    go_ret
    exact ⟨ret_bool (by simp [a1]), HB.out⟩
end Go.Proofs.Ytmoakdplhfgipaa
