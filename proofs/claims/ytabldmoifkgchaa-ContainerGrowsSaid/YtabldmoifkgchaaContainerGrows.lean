/- ContainerGrows: a greater mass has no lesser level, and levels are from 0 to 1000; the fixed examples hold. No condition. -/
import Derived.Test.YtabldmoifkgchaaAwake13
import Derived.Test.YtabldmoifkgchaaConQ
import Derived.Test.YtabldmoifkgchaaOpenS
namespace Go.Proofs.Ytabldmoifkgchaa.containerGrows
open Go.ChangeShapes Go.WideShapes Go.ChangeAt Go.RowKit
set_option linter.unusedVariables false

set_option maxRecDepth 100000 in
set_option maxHeartbeats 3200000 in
theorem walk_lt (id : ByteArray) (kind lit gr node a b : Int) (w : World) (h : a < b) :
    Calls Try.prog 7 #[.agg #[.string id, .int .i64 kind, .int .i64 lit, .int .i64 gr, .int .i64 node], .int .i64 a, .int .i64 b] w fun e w' => e = .returned (.bool true) ∧ Below w.heap.size w w' := by
  have hab : a ≤ b := by omega
  by_cases ha : levB gr a
  · have H1 := Lib.hid (lev_bad ha)
    clear ha
    by_cases hb : levB gr b
    · have H2 := Lib.hid (lev_bad hb)
      clear hb
      go_enter Try.func7, Try.ntmps7
      go_wp2_with fail
      refine (level_any ⟨id, kind, lit, gr, node⟩ a _).mono ?_
      rw [H1.out.1, H1.out.2]
      rintro e w1 ⟨rfl, rfl⟩
      go_wp2_with fail
      refine (level_any ⟨id, kind, lit, gr, node⟩ b _).mono ?_
      rw [H2.out.1, H2.out.2]
      rintro e w1 ⟨rfl, rfl⟩
      obtain ⟨w0, hw0, hb0⟩ : ∃ w0, (((w.alloc (.cells #[.string id, .int .i64 kind, .int .i64 lit, .int .i64 gr, .int .i64 node] 29)).alloc (.cells (Con.vs ⟨id, kind, lit, gr, node⟩) 29)).alloc (.cells (Con.vs ⟨id, kind, lit, gr, node⟩) 29)) = w0 ∧ Below w.heap.size w w0 := ⟨_, rfl, by go_grown⟩
      rw [hw0]
      clear hw0
      go_wp2_with fail
      refine (awake_any _).mono ?_
      rintro e w9 ⟨rfl, hb9⟩
      have HB := Lib.hid (hb0.trans (hb9.mono hb0.size))
      clear hb0 hb9
      go_wp2
      go_ret
      exact ⟨rfl, HB.out⟩
    · have hz : (levV gr b == 0) = (levV gr b == 0) := rfl
      have H2 := Lib.hid (lev_ok' hb)
      clear hb hz
      go_enter Try.func7, Try.ntmps7
      go_wp2_with fail
      refine (level_any ⟨id, kind, lit, gr, node⟩ a _).mono ?_
      rw [H1.out.1, H1.out.2]
      rintro e w1 ⟨rfl, rfl⟩
      go_wp2_with fail
      refine (level_any ⟨id, kind, lit, gr, node⟩ b _).mono ?_
      rw [H2.out]
      rintro e w1 ⟨rfl, rfl⟩
      obtain ⟨w0, hw0, hb0⟩ : ∃ w0, (((w.alloc (.cells #[.string id, .int .i64 kind, .int .i64 lit, .int .i64 gr, .int .i64 node] 29)).alloc (.cells (Con.vs ⟨id, kind, lit, gr, node⟩) 29)).alloc (.cells (Con.vs ⟨id, kind, lit, gr, node⟩) 29)) = w0 ∧ Below w.heap.size w w0 := ⟨_, rfl, by go_grown⟩
      rw [hw0]
      clear hw0
      go_wp2_with fail
      refine (awake_any _).mono ?_
      rintro e w9 ⟨rfl, hb9⟩
      have HB := Lib.hid (hb0.trans (hb9.mono hb0.size))
      clear hb0 hb9
      go_wp2
      go_ret
      exact ⟨rfl, HB.out⟩
  · by_cases hb : levB gr b
    · have H1 := Lib.hid (lev_ok' ha)
      have H2 := Lib.hid (lev_bad hb)
      clear ha hb
      go_enter Try.func7, Try.ntmps7
      go_wp2_with fail
      refine (level_any ⟨id, kind, lit, gr, node⟩ a _).mono ?_
      rw [H1.out]
      rintro e w1 ⟨rfl, rfl⟩
      go_wp2_with fail
      refine (level_any ⟨id, kind, lit, gr, node⟩ b _).mono ?_
      rw [H2.out.1, H2.out.2]
      rintro e w1 ⟨rfl, rfl⟩
      obtain ⟨w0, hw0, hb0⟩ : ∃ w0, (((w.alloc (.cells #[.string id, .int .i64 kind, .int .i64 lit, .int .i64 gr, .int .i64 node] 29)).alloc (.cells (Con.vs ⟨id, kind, lit, gr, node⟩) 29)).alloc (.cells (Con.vs ⟨id, kind, lit, gr, node⟩) 29)) = w0 ∧ Below w.heap.size w w0 := ⟨_, rfl, by go_grown⟩
      rw [hw0]
      clear hw0
      go_wp2_with fail
      refine (awake_any _).mono ?_
      rintro e w9 ⟨rfl, hb9⟩
      have HB := Lib.hid (hb0.trans (hb9.mono hb0.size))
      clear hb0 hb9
      go_wp2
      go_ret
      exact ⟨rfl, HB.out⟩
    · obtain ⟨e1, e2, g1, g2, g3, g4⟩ := grows_law (show a ≤ b by omega) ha hb
      obtain ⟨x, hx⟩ : ∃ x, levV gr a = x := ⟨_, rfl⟩
      obtain ⟨y, hy⟩ : ∃ y, levV gr b = y := ⟨_, rfl⟩
      have g2' : x ≤ y := by rw [← hx, ← hy]; exact g2
      have g3' : y ≤ 1000 := by rw [← hy]; exact g3
      rw [hx] at g1 g4
      clear g2 g3
      have H1 := Lib.hid (And.intro hx e1)
      have H2 := Lib.hid (And.intro hy e2)
      clear ha hb hx hy e1 e2
      by_cases h0 : 0 < a
      · have h1 : 0 < x := g4.2 h0
        clear g4
        go_enter Try.func7, Try.ntmps7
        go_wp2_with fail
        refine (level_any ⟨id, kind, lit, gr, node⟩ a _).mono ?_
        rw [H1.out.1, H1.out.2]
        rintro e w1 ⟨rfl, rfl⟩
        go_wp2_with fail
        refine (level_any ⟨id, kind, lit, gr, node⟩ b _).mono ?_
        rw [H2.out.1, H2.out.2]
        rintro e w1 ⟨rfl, rfl⟩
        obtain ⟨w0, hw0, hb0⟩ : ∃ w0, (((w.alloc (.cells #[.string id, .int .i64 kind, .int .i64 lit, .int .i64 gr, .int .i64 node] 29)).alloc (.cells (Con.vs ⟨id, kind, lit, gr, node⟩) 29)).alloc (.cells (Con.vs ⟨id, kind, lit, gr, node⟩) 29)) = w0 ∧ Below w.heap.size w w0 := ⟨_, rfl, by go_grown⟩
        rw [hw0]
        clear hw0
        go_wp2_with fail
        refine (awake_any _).mono ?_
        rintro e w9 ⟨rfl, hb9⟩
        have HB := Lib.hid (hb0.trans (hb9.mono hb0.size))
        clear hb0 hb9
        go_wp2
        go_ret
        exact ⟨rfl, HB.out⟩
      · have h1 : ¬ 0 < x := fun h => h0 (g4.1 h)
        clear g4
        go_enter Try.func7, Try.ntmps7
        go_wp2_with fail
        refine (level_any ⟨id, kind, lit, gr, node⟩ a _).mono ?_
        rw [H1.out.1, H1.out.2]
        rintro e w1 ⟨rfl, rfl⟩
        go_wp2_with fail
        refine (level_any ⟨id, kind, lit, gr, node⟩ b _).mono ?_
        rw [H2.out.1, H2.out.2]
        rintro e w1 ⟨rfl, rfl⟩
        obtain ⟨w0, hw0, hb0⟩ : ∃ w0, (((w.alloc (.cells #[.string id, .int .i64 kind, .int .i64 lit, .int .i64 gr, .int .i64 node] 29)).alloc (.cells (Con.vs ⟨id, kind, lit, gr, node⟩) 29)).alloc (.cells (Con.vs ⟨id, kind, lit, gr, node⟩) 29)) = w0 ∧ Below w.heap.size w w0 := ⟨_, rfl, by go_grown⟩
        rw [hw0]
        clear hw0
        go_wp2_with fail
        refine (awake_any _).mono ?_
        rintro e w9 ⟨rfl, hb9⟩
        have HB := Lib.hid (hb0.trans (hb9.mono hb0.size))
        clear hb0 hb9
        go_wp2
        go_ret
        exact ⟨rfl, HB.out⟩
set_option maxRecDepth 100000 in
set_option maxHeartbeats 3200000 in
theorem walk_gt (id : ByteArray) (kind lit gr node a b : Int) (w : World) (h : b < a) :
    Calls Try.prog 7 #[.agg #[.string id, .int .i64 kind, .int .i64 lit, .int .i64 gr, .int .i64 node], .int .i64 a, .int .i64 b] w fun e w' => e = .returned (.bool true) ∧ Below w.heap.size w w' := by
  have hab : b ≤ a := by omega
  by_cases ha : levB gr b
  · have H1 := Lib.hid (lev_bad ha)
    clear ha
    by_cases hb : levB gr a
    · have H2 := Lib.hid (lev_bad hb)
      clear hb
      go_enter Try.func7, Try.ntmps7
      go_wp2_with fail
      refine (level_any ⟨id, kind, lit, gr, node⟩ b _).mono ?_
      rw [H1.out.1, H1.out.2]
      rintro e w1 ⟨rfl, rfl⟩
      go_wp2_with fail
      refine (level_any ⟨id, kind, lit, gr, node⟩ a _).mono ?_
      rw [H2.out.1, H2.out.2]
      rintro e w1 ⟨rfl, rfl⟩
      obtain ⟨w0, hw0, hb0⟩ : ∃ w0, (((w.alloc (.cells #[.string id, .int .i64 kind, .int .i64 lit, .int .i64 gr, .int .i64 node] 29)).alloc (.cells (Con.vs ⟨id, kind, lit, gr, node⟩) 29)).alloc (.cells (Con.vs ⟨id, kind, lit, gr, node⟩) 29)) = w0 ∧ Below w.heap.size w w0 := ⟨_, rfl, by go_grown⟩
      rw [hw0]
      clear hw0
      go_wp2_with fail
      refine (awake_any _).mono ?_
      rintro e w9 ⟨rfl, hb9⟩
      have HB := Lib.hid (hb0.trans (hb9.mono hb0.size))
      clear hb0 hb9
      go_wp2
      go_ret
      exact ⟨rfl, HB.out⟩
    · have hz : (levV gr a == 0) = (levV gr a == 0) := rfl
      have H2 := Lib.hid (lev_ok' hb)
      clear hb hz
      go_enter Try.func7, Try.ntmps7
      go_wp2_with fail
      refine (level_any ⟨id, kind, lit, gr, node⟩ b _).mono ?_
      rw [H1.out.1, H1.out.2]
      rintro e w1 ⟨rfl, rfl⟩
      go_wp2_with fail
      refine (level_any ⟨id, kind, lit, gr, node⟩ a _).mono ?_
      rw [H2.out]
      rintro e w1 ⟨rfl, rfl⟩
      obtain ⟨w0, hw0, hb0⟩ : ∃ w0, (((w.alloc (.cells #[.string id, .int .i64 kind, .int .i64 lit, .int .i64 gr, .int .i64 node] 29)).alloc (.cells (Con.vs ⟨id, kind, lit, gr, node⟩) 29)).alloc (.cells (Con.vs ⟨id, kind, lit, gr, node⟩) 29)) = w0 ∧ Below w.heap.size w w0 := ⟨_, rfl, by go_grown⟩
      rw [hw0]
      clear hw0
      go_wp2_with fail
      refine (awake_any _).mono ?_
      rintro e w9 ⟨rfl, hb9⟩
      have HB := Lib.hid (hb0.trans (hb9.mono hb0.size))
      clear hb0 hb9
      go_wp2
      go_ret
      exact ⟨rfl, HB.out⟩
  · by_cases hb : levB gr a
    · have H1 := Lib.hid (lev_ok' ha)
      have H2 := Lib.hid (lev_bad hb)
      clear ha hb
      go_enter Try.func7, Try.ntmps7
      go_wp2_with fail
      refine (level_any ⟨id, kind, lit, gr, node⟩ b _).mono ?_
      rw [H1.out]
      rintro e w1 ⟨rfl, rfl⟩
      go_wp2_with fail
      refine (level_any ⟨id, kind, lit, gr, node⟩ a _).mono ?_
      rw [H2.out.1, H2.out.2]
      rintro e w1 ⟨rfl, rfl⟩
      obtain ⟨w0, hw0, hb0⟩ : ∃ w0, (((w.alloc (.cells #[.string id, .int .i64 kind, .int .i64 lit, .int .i64 gr, .int .i64 node] 29)).alloc (.cells (Con.vs ⟨id, kind, lit, gr, node⟩) 29)).alloc (.cells (Con.vs ⟨id, kind, lit, gr, node⟩) 29)) = w0 ∧ Below w.heap.size w w0 := ⟨_, rfl, by go_grown⟩
      rw [hw0]
      clear hw0
      go_wp2_with fail
      refine (awake_any _).mono ?_
      rintro e w9 ⟨rfl, hb9⟩
      have HB := Lib.hid (hb0.trans (hb9.mono hb0.size))
      clear hb0 hb9
      go_wp2
      go_ret
      exact ⟨rfl, HB.out⟩
    · obtain ⟨e1, e2, g1, g2, g3, g4⟩ := grows_law (show b ≤ a by omega) ha hb
      obtain ⟨x, hx⟩ : ∃ x, levV gr b = x := ⟨_, rfl⟩
      obtain ⟨y, hy⟩ : ∃ y, levV gr a = y := ⟨_, rfl⟩
      have g2' : x ≤ y := by rw [← hx, ← hy]; exact g2
      have g3' : y ≤ 1000 := by rw [← hy]; exact g3
      rw [hx] at g1 g4
      clear g2 g3
      have H1 := Lib.hid (And.intro hx e1)
      have H2 := Lib.hid (And.intro hy e2)
      clear ha hb hx hy e1 e2
      by_cases h0 : 0 < b
      · have h1 : 0 < x := g4.2 h0
        clear g4
        go_enter Try.func7, Try.ntmps7
        go_wp2_with fail
        refine (level_any ⟨id, kind, lit, gr, node⟩ b _).mono ?_
        rw [H1.out.1, H1.out.2]
        rintro e w1 ⟨rfl, rfl⟩
        go_wp2_with fail
        refine (level_any ⟨id, kind, lit, gr, node⟩ a _).mono ?_
        rw [H2.out.1, H2.out.2]
        rintro e w1 ⟨rfl, rfl⟩
        obtain ⟨w0, hw0, hb0⟩ : ∃ w0, (((w.alloc (.cells #[.string id, .int .i64 kind, .int .i64 lit, .int .i64 gr, .int .i64 node] 29)).alloc (.cells (Con.vs ⟨id, kind, lit, gr, node⟩) 29)).alloc (.cells (Con.vs ⟨id, kind, lit, gr, node⟩) 29)) = w0 ∧ Below w.heap.size w w0 := ⟨_, rfl, by go_grown⟩
        rw [hw0]
        clear hw0
        go_wp2_with fail
        refine (awake_any _).mono ?_
        rintro e w9 ⟨rfl, hb9⟩
        have HB := Lib.hid (hb0.trans (hb9.mono hb0.size))
        clear hb0 hb9
        go_wp2
        go_ret
        exact ⟨rfl, HB.out⟩
      · have h1 : ¬ 0 < x := fun h => h0 (g4.1 h)
        clear g4
        go_enter Try.func7, Try.ntmps7
        go_wp2_with fail
        refine (level_any ⟨id, kind, lit, gr, node⟩ b _).mono ?_
        rw [H1.out.1, H1.out.2]
        rintro e w1 ⟨rfl, rfl⟩
        go_wp2_with fail
        refine (level_any ⟨id, kind, lit, gr, node⟩ a _).mono ?_
        rw [H2.out.1, H2.out.2]
        rintro e w1 ⟨rfl, rfl⟩
        obtain ⟨w0, hw0, hb0⟩ : ∃ w0, (((w.alloc (.cells #[.string id, .int .i64 kind, .int .i64 lit, .int .i64 gr, .int .i64 node] 29)).alloc (.cells (Con.vs ⟨id, kind, lit, gr, node⟩) 29)).alloc (.cells (Con.vs ⟨id, kind, lit, gr, node⟩) 29)) = w0 ∧ Below w.heap.size w w0 := ⟨_, rfl, by go_grown⟩
        rw [hw0]
        clear hw0
        go_wp2_with fail
        refine (awake_any _).mono ?_
        rintro e w9 ⟨rfl, hb9⟩
        have HB := Lib.hid (hb0.trans (hb9.mono hb0.size))
        clear hb0 hb9
        go_wp2
        go_ret
        exact ⟨rfl, HB.out⟩
set_option maxRecDepth 100000 in
set_option maxHeartbeats 3200000 in
theorem walk_eq (id : ByteArray) (kind lit gr node a b : Int) (w : World) (h : a = b) :
    Calls Try.prog 7 #[.agg #[.string id, .int .i64 kind, .int .i64 lit, .int .i64 gr, .int .i64 node], .int .i64 a, .int .i64 b] w fun e w' => e = .returned (.bool true) ∧ Below w.heap.size w w' := by
  subst h
  by_cases ha : levB gr a
  · have H1 := Lib.hid (lev_bad ha)
    clear ha
    by_cases hb : levB gr a
    · have H2 := Lib.hid (lev_bad hb)
      clear hb
      go_enter Try.func7, Try.ntmps7
      go_wp2_with fail
      refine (level_any ⟨id, kind, lit, gr, node⟩ a _).mono ?_
      rw [H1.out.1, H1.out.2]
      rintro e w1 ⟨rfl, rfl⟩
      go_wp2_with fail
      refine (level_any ⟨id, kind, lit, gr, node⟩ a _).mono ?_
      rw [H2.out.1, H2.out.2]
      rintro e w1 ⟨rfl, rfl⟩
      obtain ⟨w0, hw0, hb0⟩ : ∃ w0, (((w.alloc (.cells #[.string id, .int .i64 kind, .int .i64 lit, .int .i64 gr, .int .i64 node] 29)).alloc (.cells (Con.vs ⟨id, kind, lit, gr, node⟩) 29)).alloc (.cells (Con.vs ⟨id, kind, lit, gr, node⟩) 29)) = w0 ∧ Below w.heap.size w w0 := ⟨_, rfl, by go_grown⟩
      rw [hw0]
      clear hw0
      go_wp2_with fail
      refine (awake_any _).mono ?_
      rintro e w9 ⟨rfl, hb9⟩
      have HB := Lib.hid (hb0.trans (hb9.mono hb0.size))
      clear hb0 hb9
      go_wp2
      go_ret
      exact ⟨rfl, HB.out⟩
    · have hz : (levV gr a == 0) = (levV gr a == 0) := rfl
      have H2 := Lib.hid (lev_ok' hb)
      clear hb hz
      go_enter Try.func7, Try.ntmps7
      go_wp2_with fail
      refine (level_any ⟨id, kind, lit, gr, node⟩ a _).mono ?_
      rw [H1.out.1, H1.out.2]
      rintro e w1 ⟨rfl, rfl⟩
      go_wp2_with fail
      refine (level_any ⟨id, kind, lit, gr, node⟩ a _).mono ?_
      rw [H2.out]
      rintro e w1 ⟨rfl, rfl⟩
      obtain ⟨w0, hw0, hb0⟩ : ∃ w0, (((w.alloc (.cells #[.string id, .int .i64 kind, .int .i64 lit, .int .i64 gr, .int .i64 node] 29)).alloc (.cells (Con.vs ⟨id, kind, lit, gr, node⟩) 29)).alloc (.cells (Con.vs ⟨id, kind, lit, gr, node⟩) 29)) = w0 ∧ Below w.heap.size w w0 := ⟨_, rfl, by go_grown⟩
      rw [hw0]
      clear hw0
      go_wp2_with fail
      refine (awake_any _).mono ?_
      rintro e w9 ⟨rfl, hb9⟩
      have HB := Lib.hid (hb0.trans (hb9.mono hb0.size))
      clear hb0 hb9
      go_wp2
      go_ret
      exact ⟨rfl, HB.out⟩
  · by_cases hb : levB gr a
    · have H1 := Lib.hid (lev_ok' ha)
      have H2 := Lib.hid (lev_bad hb)
      clear ha hb
      go_enter Try.func7, Try.ntmps7
      go_wp2_with fail
      refine (level_any ⟨id, kind, lit, gr, node⟩ a _).mono ?_
      rw [H1.out]
      rintro e w1 ⟨rfl, rfl⟩
      go_wp2_with fail
      refine (level_any ⟨id, kind, lit, gr, node⟩ a _).mono ?_
      rw [H2.out.1, H2.out.2]
      rintro e w1 ⟨rfl, rfl⟩
      obtain ⟨w0, hw0, hb0⟩ : ∃ w0, (((w.alloc (.cells #[.string id, .int .i64 kind, .int .i64 lit, .int .i64 gr, .int .i64 node] 29)).alloc (.cells (Con.vs ⟨id, kind, lit, gr, node⟩) 29)).alloc (.cells (Con.vs ⟨id, kind, lit, gr, node⟩) 29)) = w0 ∧ Below w.heap.size w w0 := ⟨_, rfl, by go_grown⟩
      rw [hw0]
      clear hw0
      go_wp2_with fail
      refine (awake_any _).mono ?_
      rintro e w9 ⟨rfl, hb9⟩
      have HB := Lib.hid (hb0.trans (hb9.mono hb0.size))
      clear hb0 hb9
      go_wp2
      go_ret
      exact ⟨rfl, HB.out⟩
    · obtain ⟨e1, e2, g1, g2, g3, g4⟩ := grows_law (show a ≤ a by omega) ha hb
      obtain ⟨x, hx⟩ : ∃ x, levV gr a = x := ⟨_, rfl⟩
      obtain ⟨y, hy⟩ : ∃ y, levV gr a = y := ⟨_, rfl⟩
      have g2' : x ≤ y := by rw [← hx, ← hy]; exact g2
      have g3' : y ≤ 1000 := by rw [← hy]; exact g3
      rw [hx] at g1 g4
      clear g2 g3
      have H1 := Lib.hid (And.intro hx e1)
      have H2 := Lib.hid (And.intro hy e2)
      clear ha hb hx hy e1 e2
      by_cases h0 : 0 < a
      · have h1 : 0 < x := g4.2 h0
        clear g4
        go_enter Try.func7, Try.ntmps7
        go_wp2_with fail
        refine (level_any ⟨id, kind, lit, gr, node⟩ a _).mono ?_
        rw [H1.out.1, H1.out.2]
        rintro e w1 ⟨rfl, rfl⟩
        go_wp2_with fail
        refine (level_any ⟨id, kind, lit, gr, node⟩ a _).mono ?_
        rw [H2.out.1, H2.out.2]
        rintro e w1 ⟨rfl, rfl⟩
        obtain ⟨w0, hw0, hb0⟩ : ∃ w0, (((w.alloc (.cells #[.string id, .int .i64 kind, .int .i64 lit, .int .i64 gr, .int .i64 node] 29)).alloc (.cells (Con.vs ⟨id, kind, lit, gr, node⟩) 29)).alloc (.cells (Con.vs ⟨id, kind, lit, gr, node⟩) 29)) = w0 ∧ Below w.heap.size w w0 := ⟨_, rfl, by go_grown⟩
        rw [hw0]
        clear hw0
        go_wp2_with fail
        refine (awake_any _).mono ?_
        rintro e w9 ⟨rfl, hb9⟩
        have HB := Lib.hid (hb0.trans (hb9.mono hb0.size))
        clear hb0 hb9
        go_wp2
        go_ret
        exact ⟨rfl, HB.out⟩
      · have h1 : ¬ 0 < x := fun h => h0 (g4.1 h)
        clear g4
        go_enter Try.func7, Try.ntmps7
        go_wp2_with fail
        refine (level_any ⟨id, kind, lit, gr, node⟩ a _).mono ?_
        rw [H1.out.1, H1.out.2]
        rintro e w1 ⟨rfl, rfl⟩
        go_wp2_with fail
        refine (level_any ⟨id, kind, lit, gr, node⟩ a _).mono ?_
        rw [H2.out.1, H2.out.2]
        rintro e w1 ⟨rfl, rfl⟩
        obtain ⟨w0, hw0, hb0⟩ : ∃ w0, (((w.alloc (.cells #[.string id, .int .i64 kind, .int .i64 lit, .int .i64 gr, .int .i64 node] 29)).alloc (.cells (Con.vs ⟨id, kind, lit, gr, node⟩) 29)).alloc (.cells (Con.vs ⟨id, kind, lit, gr, node⟩) 29)) = w0 ∧ Below w.heap.size w w0 := ⟨_, rfl, by go_grown⟩
        rw [hw0]
        clear hw0
        go_wp2_with fail
        refine (awake_any _).mono ?_
        rintro e w9 ⟨rfl, hb9⟩
        have HB := Lib.hid (hb0.trans (hb9.mono hb0.size))
        clear hb0 hb9
        go_wp2
        go_ret
        exact ⟨rfl, HB.out⟩
theorem walk (w : World) (v0 : Value) (hv0 : IsCont v0) (v1 : Value) (hv1 : IsInt .i64 v1) (v2 : Value) (hv2 : IsInt .i64 v2) :
    Calls Try.prog 7 #[v0, v1, v2] w fun e w' => e = .returned (.bool true) ∧ Below w.heap.size w w' := by
  obtain ⟨id, kind, lit, gr, node, rfl, _, _, _, _, _⟩ := hv0
  obtain ⟨a, rfl, _⟩ := hv1
  obtain ⟨b, rfl, _⟩ := hv2
  rcases Int.lt_trichotomy a b with h | h | h
  · exact walk_lt id kind lit gr node a b w h
  · exact walk_eq id kind lit gr node a b w h
  · exact walk_gt id kind lit gr node a b w h

theorem own : ownKnob Try.prog.godebug = none := by kernel_rfl
theorem laidOut : laidOutB Try.prog = true := by kernel_rfl
set_option maxRecDepth 100000 in
theorem lifted (os : Os) (started : os.Started) (H : Type) (enc : TypeId × Value → H) :
    ReturnsInHanded {} Try.checked os 7 .any (Rows.containerGrowsSpec.pre6 enc Try.prog Try.f7 Rows.containerGrowsRow.domain false) (Rows.containerGrowsSpec.post enc Try.prog Try.f7 false true false false) := by
  refine returnsInHanded_of_change (C := Try.checked) own started (by kernel_rfl) Try.func7
    (ChangeSpec.witness6 (enc := enc) (C := Try.checked) false ⟨#[], #[.agg #[.string ⟨#[]⟩, .int .i64 0, .int .i64 0, .int .i64 0, .int .i64 0], .int .i64 0, .int .i64 0], []⟩ 8 (by kernel_rfl) (by kernel_rfl) (by kernel_rfl) (by kernel_rfl)) ?_
  intro W base args ds gs before hval0 hW hcnd _
  have hval : ∀ (j : Nat) t v, Try.f7.params[j]? = some t → args[j]? = some v → Value.okWide Try.prog W .any base t v := hval0
  have hW' := hW
  obtain ⟨p, q, hA0, hV, rfl, hfz, hnd⟩ := hW
  have hA : DataW.TrodAll enc Try.prog W 0 (fun _ => true) true Try.f7.params.toList args.toList ds p := hA0
  rw [Try.params7] at hA hval
  obtain ⟨v0, vs0, d0, ds0, p0, q0, hargs, rfl, rfl, h0, r0⟩ := trodAll_cons hA
  obtain ⟨v1, vs1, d1, ds1, p1, q1, rfl, rfl, rfl, h1, r1⟩ := trodAll_cons r0
  obtain ⟨v2, vs2, d2, ds2, p2, q2, rfl, rfl, rfl, h2, r2⟩ := trodAll_cons r1
  obtain ⟨rfl, rfl, rfl⟩ := trodAll_nil r2
  obtain rfl : args = #[v0, v1, v2] := by cases args; simp_all
  obtain ⟨rfl, rfl⟩ := trodVars_none hV
  have k0 := h0
  have lt0 : ∀ x ∈ p0, x.block < W.heap.size := by obtain ⟨m, hm⟩ := k0; exact DataW.trod_lt m _ _ _ hm
  have O0 := open_cont W (hval 0 29 v0 rfl rfl) h0
  have k1 := h1
  have lt1 : ∀ x ∈ p1, x.block < W.heap.size := by obtain ⟨m, hm⟩ := k1; exact DataW.trod_lt m _ _ _ hm
  have O1 := open_int W (hval 1 3 v1 rfl rfl) h1
  have k2 := h2
  have lt2 : ∀ x ∈ p2, x.block < W.heap.size := by obtain ⟨m, hm⟩ := k2; exact DataW.trod_lt m _ _ _ hm
  have O2 := open_int W (hval 2 3 v2 rfl rfl) h2
  clear hA0 hval0
  refine (walk W v0 O0 v1 O1 v2 O2).mono fun e W' ⟨he, bel⟩ => ?_
  subst he
  exact ⟨_, rfl, _, _, _, [], _, [], hW', trodAll_mk1 (shut_bool Try.underlying4 _), (trodAll_cons_mk (Below.trod laidOut (by kernel_rfl) (of_decide_eq_true (by kernel_rfl)) k0 bel lt0) (trodAll_cons_mk (Below.trod laidOut (by kernel_rfl) (of_decide_eq_true (by kernel_rfl)) k1 bel lt1) (trodAll_cons_mk (Below.trod laidOut (by kernel_rfl) (of_decide_eq_true (by kernel_rfl)) k2 bel lt2) trodAll_mk0))), rfl, bel.frame _, fun h => by cases h⟩
theorem over : Rows.containerGrowsRow.holds Try.pinned (OpenSpec.ofChange Rows.containerGrowsSpec) :=
  OpenClaim.holds_of_wide 7 Try.f7 rfl rfl rfl rfl rfl rfl rfl ⟨rfl, rfl, rfl, rfl, rfl⟩ rfl rfl rfl rfl rfl (by kernel_rfl) Try.func7 (by kernel_rfl)
    (of_decide_eq_true (by kernel_rfl)) (by unfold Func.isWrapper; first | (rw [if_pos (by decide +kernel)]; kernel_rfl) | (rw [if_neg (by decide +kernel)]; exact ⟨rfl, rfl⟩))
    (fun os started H enc _ => lifted os started H enc)
theorem proved : Rows.ContainerGrowsSaid := over
#print axioms proved

end Go.Proofs.Ytabldmoifkgchaa.containerGrows
