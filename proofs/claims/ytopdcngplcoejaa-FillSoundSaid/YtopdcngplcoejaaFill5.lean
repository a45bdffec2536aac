/- The contract of Both of package fill and of the reference. -/
import Derived.Test.YtopdcngplcoejaaFill4
namespace Go.Proofs.Ytopdcngplcoejaa
open Go.RowKit

def bothBad (a b c d : Int) : Bool := !estB a b || !estB c d
def bothE (a b c d : Int) : Int := if bothBad a b c d = true then 1 else if min b d < max a c then 10 else 0
def bothLo (a b c d : Int) : Int := if bothE a b c d = 0 then max a c else 0
def bothHi (a b c d : Int) : Int := if bothE a b c d = 0 then min b d else 0

set_option maxRecDepth 100000 in
set_option maxHeartbeats 800000 in
theorem both_bad (a b c d : Int) (w : World) (h : bothBad a b c d = true) :
    Calls Try.prog 23 #[.agg #[.int .i64 a, .int .i64 b], .agg #[.int .i64 c, .int .i64 d]] w fun e w' => e = .returned (.tuple #[.agg #[.int .i64 0, .int .i64 0], .int .i64 1]) ∧ Below w.heap.size w w' := by
  cases h1 : estB a b
  · have H1 := Lib.hid h1
    clear h1 h
    go_enter Try.func23, Try.ntmps23
    go_wp2_with fail
    refine (estimate_any _ _ _).mono ?_
    rw [H1.out]
    rintro e w1 ⟨rfl, rfl⟩
    go_wp2
    refine bodyPost_ret (v := .tuple #[.agg #[.int .i64 0, .int .i64 0], .int .i64 1]) (by simp [results, Try.results23, go_sem]) rfl ⟨rfl, ?_⟩
    go_grown
  · have h2 : estB c d = false := by simpa [bothBad, h1] using h
    have H1 := Lib.hid h1
    have H2 := Lib.hid h2
    clear h1 h2 h
    go_enter Try.func23, Try.ntmps23
    go_wp2_with fail
    refine (estimate_any _ _ _).mono ?_
    rw [H1.out]
    rintro e w1 ⟨rfl, rfl⟩
    go_wp2_with fail
    refine (estimate_any _ _ _).mono ?_
    rw [H2.out]
    rintro e w1 ⟨rfl, rfl⟩
    go_wp2
    refine bodyPost_ret (v := .tuple #[.agg #[.int .i64 0, .int .i64 0], .int .i64 1]) (by simp [results, Try.results23, go_sem]) rfl ⟨rfl, ?_⟩
    go_grown
set_option maxRecDepth 100000 in
set_option maxHeartbeats 1600000 in
theorem both_in (a b c d : Int) (w : World) (h1 : estB a b = true) (h2 : estB c d = true) :
    Calls Try.prog 23 #[.agg #[.int .i64 a, .int .i64 b], .agg #[.int .i64 c, .int .i64 d]] w fun e w' =>
      e = .returned (.tuple #[.agg #[.int .i64 (bothLo a b c d), .int .i64 (bothHi a b c d)], .int .i64 (bothE a b c d)]) ∧ Below w.heap.size w w' := by
  have hb : bothBad a b c d = false := by simp [bothBad, h1, h2]
  have a1 := estB_iff.1 h1
  have a2 := estB_iff.1 h2
  have H1 := Lib.hid h1
  have H2 := Lib.hid h2
  clear h1 h2
  by_cases g1 : a < c
  · by_cases g2 : d < b
    · by_cases g3 : d < c
      · have hE : bothE a b c d = 10 := by unfold bothE; rw [if_neg (by rw [hb]; decide), if_pos (by omega)]
        have e1 : bothLo a b c d = 0 := if_neg (by rw [hE]; decide)
        have e2 : bothHi a b c d = 0 := if_neg (by rw [hE]; decide)
        rw [hE, e1, e2]
        clear hE e1 e2 hb a1 a2
        go_enter Try.func23, Try.ntmps23
        go_wp2_with fail
        refine (estimate_any _ _ _).mono ?_
        rw [H1.out]
        rintro e w1 ⟨rfl, rfl⟩
        go_wp2_with fail
        refine (estimate_any _ _ _).mono ?_
        rw [H2.out]
        rintro e w1 ⟨rfl, rfl⟩
        go_wp2
        refine bodyPost_ret (v := .tuple #[.agg #[.int .i64 0, .int .i64 0], .int .i64 10]) (by simp [results, Try.results23, go_sem]) rfl ⟨rfl, ?_⟩
        go_grown
      · have hE : bothE a b c d = 0 := by unfold bothE; rw [if_neg (by rw [hb]; decide), if_neg (by omega)]
        have e1 : bothLo a b c d = c := (if_pos hE).trans (by omega)
        have e2 : bothHi a b c d = d := (if_pos hE).trans (by omega)
        rw [hE, e1, e2]
        clear hE e1 e2 hb a1 a2
        go_enter Try.func23, Try.ntmps23
        go_wp2_with fail
        refine (estimate_any _ _ _).mono ?_
        rw [H1.out]
        rintro e w1 ⟨rfl, rfl⟩
        go_wp2_with fail
        refine (estimate_any _ _ _).mono ?_
        rw [H2.out]
        rintro e w1 ⟨rfl, rfl⟩
        go_wp2
        refine bodyPost_ret (v := .tuple #[.agg #[.int .i64 c, .int .i64 d], .int .i64 0]) (by simp [results, Try.results23, go_sem]) rfl ⟨rfl, ?_⟩
        go_grown
    · by_cases g3 : b < c
      · have hE : bothE a b c d = 10 := by unfold bothE; rw [if_neg (by rw [hb]; decide), if_pos (by omega)]
        have e1 : bothLo a b c d = 0 := if_neg (by rw [hE]; decide)
        have e2 : bothHi a b c d = 0 := if_neg (by rw [hE]; decide)
        rw [hE, e1, e2]
        clear hE e1 e2 hb a1 a2
        go_enter Try.func23, Try.ntmps23
        go_wp2_with fail
        refine (estimate_any _ _ _).mono ?_
        rw [H1.out]
        rintro e w1 ⟨rfl, rfl⟩
        go_wp2_with fail
        refine (estimate_any _ _ _).mono ?_
        rw [H2.out]
        rintro e w1 ⟨rfl, rfl⟩
        go_wp2
        refine bodyPost_ret (v := .tuple #[.agg #[.int .i64 0, .int .i64 0], .int .i64 10]) (by simp [results, Try.results23, go_sem]) rfl ⟨rfl, ?_⟩
        go_grown
      · have hE : bothE a b c d = 0 := by unfold bothE; rw [if_neg (by rw [hb]; decide), if_neg (by omega)]
        have e1 : bothLo a b c d = c := (if_pos hE).trans (by omega)
        have e2 : bothHi a b c d = b := (if_pos hE).trans (by omega)
        rw [hE, e1, e2]
        clear hE e1 e2 hb a1 a2
        go_enter Try.func23, Try.ntmps23
        go_wp2_with fail
        refine (estimate_any _ _ _).mono ?_
        rw [H1.out]
        rintro e w1 ⟨rfl, rfl⟩
        go_wp2_with fail
        refine (estimate_any _ _ _).mono ?_
        rw [H2.out]
        rintro e w1 ⟨rfl, rfl⟩
        go_wp2
        refine bodyPost_ret (v := .tuple #[.agg #[.int .i64 c, .int .i64 b], .int .i64 0]) (by simp [results, Try.results23, go_sem]) rfl ⟨rfl, ?_⟩
        go_grown
  · by_cases g2 : d < b
    · by_cases g3 : d < a
      · have hE : bothE a b c d = 10 := by unfold bothE; rw [if_neg (by rw [hb]; decide), if_pos (by omega)]
        have e1 : bothLo a b c d = 0 := if_neg (by rw [hE]; decide)
        have e2 : bothHi a b c d = 0 := if_neg (by rw [hE]; decide)
        rw [hE, e1, e2]
        clear hE e1 e2 hb a1 a2
        go_enter Try.func23, Try.ntmps23
        go_wp2_with fail
        refine (estimate_any _ _ _).mono ?_
        rw [H1.out]
        rintro e w1 ⟨rfl, rfl⟩
        go_wp2_with fail
        refine (estimate_any _ _ _).mono ?_
        rw [H2.out]
        rintro e w1 ⟨rfl, rfl⟩
        go_wp2
        refine bodyPost_ret (v := .tuple #[.agg #[.int .i64 0, .int .i64 0], .int .i64 10]) (by simp [results, Try.results23, go_sem]) rfl ⟨rfl, ?_⟩
        go_grown
      · have hE : bothE a b c d = 0 := by unfold bothE; rw [if_neg (by rw [hb]; decide), if_neg (by omega)]
        have e1 : bothLo a b c d = a := (if_pos hE).trans (by omega)
        have e2 : bothHi a b c d = d := (if_pos hE).trans (by omega)
        rw [hE, e1, e2]
        clear hE e1 e2 hb a1 a2
        go_enter Try.func23, Try.ntmps23
        go_wp2_with fail
        refine (estimate_any _ _ _).mono ?_
        rw [H1.out]
        rintro e w1 ⟨rfl, rfl⟩
        go_wp2_with fail
        refine (estimate_any _ _ _).mono ?_
        rw [H2.out]
        rintro e w1 ⟨rfl, rfl⟩
        go_wp2
        refine bodyPost_ret (v := .tuple #[.agg #[.int .i64 a, .int .i64 d], .int .i64 0]) (by simp [results, Try.results23, go_sem]) rfl ⟨rfl, ?_⟩
        go_grown
    · by_cases g3 : b < a
      · have hE : bothE a b c d = 10 := by unfold bothE; rw [if_neg (by rw [hb]; decide), if_pos (by omega)]
        have e1 : bothLo a b c d = 0 := if_neg (by rw [hE]; decide)
        have e2 : bothHi a b c d = 0 := if_neg (by rw [hE]; decide)
        rw [hE, e1, e2]
        clear hE e1 e2 hb a1 a2
        go_enter Try.func23, Try.ntmps23
        go_wp2_with fail
        refine (estimate_any _ _ _).mono ?_
        rw [H1.out]
        rintro e w1 ⟨rfl, rfl⟩
        go_wp2_with fail
        refine (estimate_any _ _ _).mono ?_
        rw [H2.out]
        rintro e w1 ⟨rfl, rfl⟩
        go_wp2
        refine bodyPost_ret (v := .tuple #[.agg #[.int .i64 0, .int .i64 0], .int .i64 10]) (by simp [results, Try.results23, go_sem]) rfl ⟨rfl, ?_⟩
        go_grown
      · have hE : bothE a b c d = 0 := by unfold bothE; rw [if_neg (by rw [hb]; decide), if_neg (by omega)]
        have e1 : bothLo a b c d = a := (if_pos hE).trans (by omega)
        have e2 : bothHi a b c d = b := (if_pos hE).trans (by omega)
        rw [hE, e1, e2]
        clear hE e1 e2 hb a1 a2
        go_enter Try.func23, Try.ntmps23
        go_wp2_with fail
        refine (estimate_any _ _ _).mono ?_
        rw [H1.out]
        rintro e w1 ⟨rfl, rfl⟩
        go_wp2_with fail
        refine (estimate_any _ _ _).mono ?_
        rw [H2.out]
        rintro e w1 ⟨rfl, rfl⟩
        go_wp2
        refine bodyPost_ret (v := .tuple #[.agg #[.int .i64 a, .int .i64 b], .int .i64 0]) (by simp [results, Try.results23, go_sem]) rfl ⟨rfl, ?_⟩
        go_grown
theorem both_any (a b c d : Int) (w : World) :
    Calls Try.prog 23 #[.agg #[.int .i64 a, .int .i64 b], .agg #[.int .i64 c, .int .i64 d]] w fun e w' =>
      e = .returned (.tuple #[.agg #[.int .i64 (bothLo a b c d), .int .i64 (bothHi a b c d)], .int .i64 (bothE a b c d)]) ∧ Below w.heap.size w w' := by
  cases h : bothBad a b c d
  · simp [bothBad] at h
    exact both_in a b c d w h.1 h.2
  · have hE : bothE a b c d = 1 := if_pos h
    have e1 : bothLo a b c d = 0 := if_neg (by rw [hE]; decide)
    have e2 : bothHi a b c d = 0 := if_neg (by rw [hE]; decide)
    rw [hE, e1, e2]
    exact both_bad a b c d w h

set_option maxRecDepth 100000 in
set_option maxHeartbeats 800000 in
theorem rboth_bad (a b c d : Int) (w : World) (h : bothBad a b c d = true) :
    Calls Try.prog 24 #[.agg #[.int .i64 a, .int .i64 b], .agg #[.int .i64 c, .int .i64 d]] w fun e w' => e = .returned (.tuple #[.agg #[.int .i64 0, .int .i64 0], .int .i64 1]) ∧ Below w.heap.size w w' := by
  cases h1 : estB a b
  · have H1 := Lib.hid h1
    clear h1 h
    go_enter Try.func24, Try.ntmps24
    go_wp2_with fail
    refine (restimate_any _ _ _).mono ?_
    rw [H1.out]
    rintro e w1 ⟨rfl, rfl⟩
    go_wp2
    refine bodyPost_ret (v := .tuple #[.agg #[.int .i64 0, .int .i64 0], .int .i64 1]) (by simp [results, Try.results24, go_sem]) rfl ⟨rfl, ?_⟩
    go_grown
  · have h2 : estB c d = false := by simpa [bothBad, h1] using h
    have H1 := Lib.hid h1
    have H2 := Lib.hid h2
    clear h1 h2 h
    go_enter Try.func24, Try.ntmps24
    go_wp2_with fail
    refine (restimate_any _ _ _).mono ?_
    rw [H1.out]
    rintro e w1 ⟨rfl, rfl⟩
    go_wp2_with fail
    refine (restimate_any _ _ _).mono ?_
    rw [H2.out]
    rintro e w1 ⟨rfl, rfl⟩
    go_wp2
    refine bodyPost_ret (v := .tuple #[.agg #[.int .i64 0, .int .i64 0], .int .i64 1]) (by simp [results, Try.results24, go_sem]) rfl ⟨rfl, ?_⟩
    go_grown
set_option maxRecDepth 100000 in
set_option maxHeartbeats 1600000 in
theorem rboth_in (a b c d : Int) (w : World) (h1 : estB a b = true) (h2 : estB c d = true) :
    Calls Try.prog 24 #[.agg #[.int .i64 a, .int .i64 b], .agg #[.int .i64 c, .int .i64 d]] w fun e w' =>
      e = .returned (.tuple #[.agg #[.int .i64 (bothLo a b c d), .int .i64 (bothHi a b c d)], .int .i64 (bothE a b c d)]) ∧ Below w.heap.size w w' := by
  have hb : bothBad a b c d = false := by simp [bothBad, h1, h2]
  have a1 := estB_iff.1 h1
  have a2 := estB_iff.1 h2
  have H1 := Lib.hid h1
  have H2 := Lib.hid h2
  clear h1 h2
  by_cases g1 : a < c
  · by_cases g2 : d < b
    · by_cases g3 : d < c
      · have hE : bothE a b c d = 10 := by unfold bothE; rw [if_neg (by rw [hb]; decide), if_pos (by omega)]
        have e1 : bothLo a b c d = 0 := if_neg (by rw [hE]; decide)
        have e2 : bothHi a b c d = 0 := if_neg (by rw [hE]; decide)
        rw [hE, e1, e2]
        clear hE e1 e2 hb a1 a2
        go_enter Try.func24, Try.ntmps24
        go_wp2_with fail
        refine (restimate_any _ _ _).mono ?_
        rw [H1.out]
        rintro e w1 ⟨rfl, rfl⟩
        go_wp2_with fail
        refine (restimate_any _ _ _).mono ?_
        rw [H2.out]
        rintro e w1 ⟨rfl, rfl⟩
        go_wp2
        refine bodyPost_ret (v := .tuple #[.agg #[.int .i64 0, .int .i64 0], .int .i64 10]) (by simp [results, Try.results24, go_sem]) rfl ⟨rfl, ?_⟩
        go_grown
      · have hE : bothE a b c d = 0 := by unfold bothE; rw [if_neg (by rw [hb]; decide), if_neg (by omega)]
        have e1 : bothLo a b c d = c := (if_pos hE).trans (by omega)
        have e2 : bothHi a b c d = d := (if_pos hE).trans (by omega)
        rw [hE, e1, e2]
        clear hE e1 e2 hb a1 a2
        go_enter Try.func24, Try.ntmps24
        go_wp2_with fail
        refine (restimate_any _ _ _).mono ?_
        rw [H1.out]
        rintro e w1 ⟨rfl, rfl⟩
        go_wp2_with fail
        refine (restimate_any _ _ _).mono ?_
        rw [H2.out]
        rintro e w1 ⟨rfl, rfl⟩
        go_wp2
        refine bodyPost_ret (v := .tuple #[.agg #[.int .i64 c, .int .i64 d], .int .i64 0]) (by simp [results, Try.results24, go_sem]) rfl ⟨rfl, ?_⟩
        go_grown
    · by_cases g3 : b < c
      · have hE : bothE a b c d = 10 := by unfold bothE; rw [if_neg (by rw [hb]; decide), if_pos (by omega)]
        have e1 : bothLo a b c d = 0 := if_neg (by rw [hE]; decide)
        have e2 : bothHi a b c d = 0 := if_neg (by rw [hE]; decide)
        rw [hE, e1, e2]
        clear hE e1 e2 hb a1 a2
        go_enter Try.func24, Try.ntmps24
        go_wp2_with fail
        refine (restimate_any _ _ _).mono ?_
        rw [H1.out]
        rintro e w1 ⟨rfl, rfl⟩
        go_wp2_with fail
        refine (restimate_any _ _ _).mono ?_
        rw [H2.out]
        rintro e w1 ⟨rfl, rfl⟩
        go_wp2
        refine bodyPost_ret (v := .tuple #[.agg #[.int .i64 0, .int .i64 0], .int .i64 10]) (by simp [results, Try.results24, go_sem]) rfl ⟨rfl, ?_⟩
        go_grown
      · have hE : bothE a b c d = 0 := by unfold bothE; rw [if_neg (by rw [hb]; decide), if_neg (by omega)]
        have e1 : bothLo a b c d = c := (if_pos hE).trans (by omega)
        have e2 : bothHi a b c d = b := (if_pos hE).trans (by omega)
        rw [hE, e1, e2]
        clear hE e1 e2 hb a1 a2
        go_enter Try.func24, Try.ntmps24
        go_wp2_with fail
        refine (restimate_any _ _ _).mono ?_
        rw [H1.out]
        rintro e w1 ⟨rfl, rfl⟩
        go_wp2_with fail
        refine (restimate_any _ _ _).mono ?_
        rw [H2.out]
        rintro e w1 ⟨rfl, rfl⟩
        go_wp2
        refine bodyPost_ret (v := .tuple #[.agg #[.int .i64 c, .int .i64 b], .int .i64 0]) (by simp [results, Try.results24, go_sem]) rfl ⟨rfl, ?_⟩
        go_grown
  · by_cases g2 : d < b
    · by_cases g3 : d < a
      · have hE : bothE a b c d = 10 := by unfold bothE; rw [if_neg (by rw [hb]; decide), if_pos (by omega)]
        have e1 : bothLo a b c d = 0 := if_neg (by rw [hE]; decide)
        have e2 : bothHi a b c d = 0 := if_neg (by rw [hE]; decide)
        rw [hE, e1, e2]
        clear hE e1 e2 hb a1 a2
        go_enter Try.func24, Try.ntmps24
        go_wp2_with fail
        refine (restimate_any _ _ _).mono ?_
        rw [H1.out]
        rintro e w1 ⟨rfl, rfl⟩
        go_wp2_with fail
        refine (restimate_any _ _ _).mono ?_
        rw [H2.out]
        rintro e w1 ⟨rfl, rfl⟩
        go_wp2
        refine bodyPost_ret (v := .tuple #[.agg #[.int .i64 0, .int .i64 0], .int .i64 10]) (by simp [results, Try.results24, go_sem]) rfl ⟨rfl, ?_⟩
        go_grown
      · have hE : bothE a b c d = 0 := by unfold bothE; rw [if_neg (by rw [hb]; decide), if_neg (by omega)]
        have e1 : bothLo a b c d = a := (if_pos hE).trans (by omega)
        have e2 : bothHi a b c d = d := (if_pos hE).trans (by omega)
        rw [hE, e1, e2]
        clear hE e1 e2 hb a1 a2
        go_enter Try.func24, Try.ntmps24
        go_wp2_with fail
        refine (restimate_any _ _ _).mono ?_
        rw [H1.out]
        rintro e w1 ⟨rfl, rfl⟩
        go_wp2_with fail
        refine (restimate_any _ _ _).mono ?_
        rw [H2.out]
        rintro e w1 ⟨rfl, rfl⟩
        go_wp2
        refine bodyPost_ret (v := .tuple #[.agg #[.int .i64 a, .int .i64 d], .int .i64 0]) (by simp [results, Try.results24, go_sem]) rfl ⟨rfl, ?_⟩
        go_grown
    · by_cases g3 : b < a
      · have hE : bothE a b c d = 10 := by unfold bothE; rw [if_neg (by rw [hb]; decide), if_pos (by omega)]
        have e1 : bothLo a b c d = 0 := if_neg (by rw [hE]; decide)
        have e2 : bothHi a b c d = 0 := if_neg (by rw [hE]; decide)
        rw [hE, e1, e2]
        clear hE e1 e2 hb a1 a2
        go_enter Try.func24, Try.ntmps24
        go_wp2_with fail
        refine (restimate_any _ _ _).mono ?_
        rw [H1.out]
        rintro e w1 ⟨rfl, rfl⟩
        go_wp2_with fail
        refine (restimate_any _ _ _).mono ?_
        rw [H2.out]
        rintro e w1 ⟨rfl, rfl⟩
        go_wp2
        refine bodyPost_ret (v := .tuple #[.agg #[.int .i64 0, .int .i64 0], .int .i64 10]) (by simp [results, Try.results24, go_sem]) rfl ⟨rfl, ?_⟩
        go_grown
      · have hE : bothE a b c d = 0 := by unfold bothE; rw [if_neg (by rw [hb]; decide), if_neg (by omega)]
        have e1 : bothLo a b c d = a := (if_pos hE).trans (by omega)
        have e2 : bothHi a b c d = b := (if_pos hE).trans (by omega)
        rw [hE, e1, e2]
        clear hE e1 e2 hb a1 a2
        go_enter Try.func24, Try.ntmps24
        go_wp2_with fail
        refine (restimate_any _ _ _).mono ?_
        rw [H1.out]
        rintro e w1 ⟨rfl, rfl⟩
        go_wp2_with fail
        refine (restimate_any _ _ _).mono ?_
        rw [H2.out]
        rintro e w1 ⟨rfl, rfl⟩
        go_wp2
        refine bodyPost_ret (v := .tuple #[.agg #[.int .i64 a, .int .i64 b], .int .i64 0]) (by simp [results, Try.results24, go_sem]) rfl ⟨rfl, ?_⟩
        go_grown
theorem rboth_any (a b c d : Int) (w : World) :
    Calls Try.prog 24 #[.agg #[.int .i64 a, .int .i64 b], .agg #[.int .i64 c, .int .i64 d]] w fun e w' =>
      e = .returned (.tuple #[.agg #[.int .i64 (bothLo a b c d), .int .i64 (bothHi a b c d)], .int .i64 (bothE a b c d)]) ∧ Below w.heap.size w w' := by
  cases h : bothBad a b c d
  · simp [bothBad] at h
    exact rboth_in a b c d w h.1 h.2
  · have hE : bothE a b c d = 1 := if_pos h
    have e1 : bothLo a b c d = 0 := if_neg (by rw [hE]; decide)
    have e2 : bothHi a b c d = 0 := if_neg (by rw [hE]; decide)
    rw [hE, e1, e2]
    exact rboth_bad a b c d w h
end Go.Proofs.Ytopdcngplcoejaa
