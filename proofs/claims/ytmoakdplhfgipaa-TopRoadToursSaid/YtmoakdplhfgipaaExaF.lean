/- exact.best and exact.Best. exact.Best. -/
import Derived.Test.YtmoakdplhfgipaaExaE
namespace Go.Proofs.Ytmoakdplhfgipaa
set_option maxRecDepth 20000
open Go.RowKit Go.Maps

def BestQ (w : World) (X : WPar) (vi : Int) (e : Ending) (w' : World) : Prop := ∃ A n c co fd S, e = .returned (.tuple #[.agg #[.int .i64 vi, .slice A n c], .int .i64 co, .bool fd]) ∧ RdS w' (fun b => w.heap.size ≤ b ∧ b < w'.heap.size) A n (zs S) ∧ n ≤ 6 ∧ n ≤ c ∧ (fd = true → GoodT X vi S)
theorem best_start (w : World) (X : WPar) (vi : Int) (U T tb : Nat) :
    JX w X vi w.heap.size (w.heap.size + 1) (w.heap.size + 1 + 1 + 1 + 1 + 1) (w.heap.size + 1 + 1 + 1 + 1) (w.heap.size + 1 + 1 + 1) U T tb ((((((w.alloc (.cells (PrbA X) 28)).alloc (.cells #[.int .i64 vi] 3)).alloc (.cells #[.int .i64 0, .slice none 0 0] 34)).alloc (.cells #[.int .i64 vi, .slice none 0 0] 34)).alloc (.cells #[.int .i64 0] 3)).alloc (.cells #[.bool false] 4)) ∧ ((((((w.alloc (.cells (PrbA X) 28)).alloc (.cells #[.int .i64 vi] 3)).alloc (.cells #[.int .i64 0, .slice none 0 0] 34)).alloc (.cells #[.int .i64 vi, .slice none 0 0] 34)).alloc (.cells #[.int .i64 0] 3)).alloc (.cells #[.bool false] 4)).heap.size = w.heap.size + 6 ∧ Blk ((((((w.alloc (.cells (PrbA X) 28)).alloc (.cells #[.int .i64 vi] 3)).alloc (.cells #[.int .i64 0, .slice none 0 0] 34)).alloc (.cells #[.int .i64 vi, .slice none 0 0] 34)).alloc (.cells #[.int .i64 0] 3)).alloc (.cells #[.bool false] 4)) (w.heap.size + 1 + 1) 34 #[.int .i64 0, .slice none 0 0] := by
  refine ⟨⟨?_, ?_, ⟨0, ?_⟩, ⟨false, none, 0, 0, [], ?_, ?_, RdS.none_, by omega, by omega, fun h => by cases h⟩, by go_grown⟩, by simp, ?_⟩
  · exact (((((Blk.new _ _ _).alloc _).alloc _).alloc _).alloc _).alloc _
  · exact ((((Blk.new_at _ _ _ (by simp)).alloc _).alloc _).alloc _).alloc _
  · exact (Blk.new_at _ _ _ (by simp)).alloc _
  · exact Blk.new_at _ _ _ (by simp)
  · exact ((Blk.new_at _ _ _ (by simp)).alloc _).alloc _
  · exact (((Blk.new_at _ _ _ (by simp)).alloc _).alloc _).alloc _
set_option maxRecDepth 100000 in
set_option maxHeartbeats 6400000 in
theorem best_any {w : World} {X : WPar} {vi : Int} {A : Option Addr} {nd cd : Nat} {Dm : List Int} (hP : PInX w X) (hX : ∀ v ∈ X.V, WOk (X.on v)) (hT : tourE X.N X.E X.V X.D X.un X.us = 0) (hD : RdS w (· < w.heap.size) A nd (zs Dm)) (hnd : nd ≤ 3) :
    Calls Try.prog 13 #[.agg (PrbA X), .int .i64 vi, .slice A nd cd] w fun e w' => BestQ w X vi e w' ∧ Below w.heap.size w w' := by
  have HP := Lib.hid hP
  have HX := Lib.hid hX
  have HT := Lib.hid hT
  have HD := Lib.hid hD
  clear hP hX hT hD
  go_enter Try.func13, Try.ntmps13
  go_wp2_with fail
  obtain ⟨hj, hz, hrb⟩ := best_start w X vi (w.heap.size + 6 + 2) (w.heap.size + 6 + 4) (w.heap.size + 6 + 5)
  obtain ⟨wc, hwc⟩ : ∃ wc, ((((((w.alloc (.cells (PrbA X) 28)).alloc (.cells #[.int .i64 vi] 3)).alloc (.cells #[.int .i64 0, .slice none 0 0] 34)).alloc (.cells #[.int .i64 vi, .slice none 0 0] 34)).alloc (.cells #[.int .i64 0] 3)).alloc (.cells #[.bool false] 4)) = wc := ⟨_, rfl⟩
  rw [hwc] at hj hz hrb ⊢
  clear hwc
  have hO : JO w w.heap.size (w.heap.size + 1) (w.heap.size + 1 + 1 + 1 + 1 + 1) (w.heap.size + 1 + 1 + 1 + 1) (w.heap.size + 1 + 1 + 1) (w.heap.size + 6 + 2) (w.heap.size + 6 + 4) (w.heap.size + 6 + 5) := ⟨by omega, by omega, by omega, by omega, by omega, by omega, by omega, by omega⟩
  have HO := Lib.hid hO
  have hJ : ∀ W W', (JX w X vi w.heap.size (w.heap.size + 1) (w.heap.size + 1 + 1 + 1 + 1 + 1) (w.heap.size + 1 + 1 + 1 + 1) (w.heap.size + 1 + 1 + 1) (w.heap.size + 6 + 2) (w.heap.size + 6 + 4) (w.heap.size + 6 + 5) W ∧ Blk W (w.heap.size + 1 + 1) 34 #[.int .i64 0, .slice none 0 0]) → Kp (fun b => b = wc.heap.size + 2 ∨ b = wc.heap.size + 4 ∨ b = wc.heap.size + 5) W W' → (JX w X vi w.heap.size (w.heap.size + 1) (w.heap.size + 1 + 1 + 1 + 1 + 1) (w.heap.size + 1 + 1 + 1 + 1) (w.heap.size + 1 + 1 + 1) (w.heap.size + 6 + 2) (w.heap.size + 6 + 4) (w.heap.size + 6 + 5) W' ∧ Blk W' (w.heap.size + 1 + 1) 34 #[.int .i64 0, .slice none 0 0]) := fun W W' h hk => by
    rw [hz] at hk
    exact ⟨h.1.keep HO.out hk, hk.blk h.2 (by omega)⟩
  have hsee : ∀ W k S, (JX w X vi w.heap.size (w.heap.size + 1) (w.heap.size + 1 + 1 + 1 + 1 + 1) (w.heap.size + 1 + 1 + 1 + 1) (w.heap.size + 1 + 1 + 1) (w.heap.size + 6 + 2) (w.heap.size + 6 + 4) (w.heap.size + 6 + 5) W ∧ Blk W (w.heap.size + 1 + 1) 34 #[.int .i64 0, .slice none 0 0]) → k ≤ 2 * nd → wc.heap.size + 5 < W.heap.size → RdS W (· < W.heap.size) (some ⟨wc.heap.size + 4, 0, none⟩) k (zs S) → Calls Try.prog 24 (#[.slice (some ⟨wc.heap.size + 4, 0, none⟩) k (2 * nd)] ++ #[.pointer (some ⟨w.heap.size, 0, none⟩), .pointer (some ⟨w.heap.size + 1, 0, none⟩), .pointer (some ⟨w.heap.size + 1 + 1 + 1 + 1 + 1, 0, none⟩), .pointer (some ⟨w.heap.size + 1 + 1 + 1 + 1, 0, none⟩), .pointer (some ⟨w.heap.size + 1 + 1 + 1, 0, none⟩)]) W fun e w' => e = .returned (.tuple #[]) ∧ (JX w X vi w.heap.size (w.heap.size + 1) (w.heap.size + 1 + 1 + 1 + 1 + 1) (w.heap.size + 1 + 1 + 1 + 1) (w.heap.size + 1 + 1 + 1) (w.heap.size + 6 + 2) (w.heap.size + 6 + 4) (w.heap.size + 6 + 5) w' ∧ Blk w' (w.heap.size + 1 + 1) 34 #[.int .i64 0, .slice none 0 0]) ∧ Kp (fun b => w.heap.size ≤ b ∧ b < wc.heap.size) W w' := fun W k S h hk htb hr => by
    rw [hz] at hr htb ⊢
    have h1 := (best1_any (cp := 2 * nd) h.1 HO.out HP.out HX.out HT.out hr (by omega) (by omega) htb).mono (R' := fun e w' => e = .returned (.tuple #[]) ∧ (JX w X vi w.heap.size (w.heap.size + 1) (w.heap.size + 1 + 1 + 1 + 1 + 1) (w.heap.size + 1 + 1 + 1 + 1) (w.heap.size + 1 + 1 + 1) (w.heap.size + 6 + 2) (w.heap.size + 6 + 4) (w.heap.size + 6 + 5) w' ∧ Blk w' (w.heap.size + 1 + 1) 34 #[.int .i64 0, .slice none 0 0]) ∧ Kp (fun b => w.heap.size ≤ b ∧ b < w.heap.size + 6) W w') (by
      rintro e w' ⟨rfl, hj', hk'⟩
      exact ⟨rfl, ⟨hj', hk'.blk h.2 (by omega)⟩, hk'.mono (fun b hb => by omega)⟩)
    simpa using h1
  refine (candidates_any (J := fun W => JX w X vi w.heap.size (w.heap.size + 1) (w.heap.size + 1 + 1 + 1 + 1 + 1) (w.heap.size + 1 + 1 + 1 + 1) (w.heap.size + 1 + 1 + 1) (w.heap.size + 6 + 2) (w.heap.size + 6 + 4) (w.heap.size + 6 + 5) W ∧ Blk W (w.heap.size + 1 + 1) 34 #[.int .i64 0, .slice none 0 0]) (w0 := w) (B0 := w.heap.size) hJ hnd hsee (HD.out.below hj.b) hj.b (by omega) ⟨hj, hrb⟩).mono ?_
  rintro e w7 ⟨rfl, ⟨hj7, hr7⟩, hb7⟩
  obtain ⟨co, hco⟩ := hj7.c
  obtain ⟨fd, A7, n7, c7, S7, hf7, hob7, hr7', hn7, hc7, hg7⟩ := hj7.f
  have x0 := hf7.cell 0
  have x1 := hco.cell 0
  have x2 := hob7.cell 0
  have x3 := hob7.cell 1
  have x4 := hr7.cell 0
  have x5 := hr7.cell 1
  have z4 := hr7.frozen 0
  have z5 := hr7.frozen 1
  simp at x0 x1 x2 x3 x4 x5
  have HRB := Lib.hid hr7
  have HBL := Lib.hid hb7
  have HQ : Hid (n7 ≤ 6 ∧ n7 ≤ c7 ∧ (fd = true → GoodT X vi S7)) := Lib.hid ⟨hn7, hc7, hg7⟩
  have HRD := Lib.hid hr7'
  have HLT := Lib.hid hob7.lt
  have HL2 := Lib.hid hr7.lt
  clear hj hz hrb hO hJ hsee hj7 hr7 hb7 hco hf7 hob7 hr7' hn7 hc7 hg7
  go_wp2_with fail
  go_region
  all_goals (go_wp2_with fail)
  all_goals
    have K := ((HRB.out.set_ 0 (.int .i64 vi)).set_ 1 (.slice A7 n7 c7)).grow ((Below.refl _ _).drew)
    have d0 := K.cell 0
    have d1 := K.cell 1
    simp at d0 d1
    refine bodyPost_ret (v := .tuple #[.agg #[.int .i64 vi, .slice A7 n7 c7], .int .i64 co, .bool fd]) (by simp [results, Try.results13, go_sem, d0, d1]) rfl ⟨⟨A7, n7, c7, co, fd, S7, rfl, ?_, HQ.out.1, HQ.out.2.1, HQ.out.2.2⟩, ?_⟩
    · refine (HRD.out.keep (fun b hb => ?_)).mono (S' := fun b => w.heap.size ≤ b ∧ b < _) (fun b hb => ⟨by have := hb.2.2.2.2; omega, by simpa [World.setCell] using hb.1⟩)
      have hne : b ≠ w.heap.size + 1 + 1 := fun e => by have := hb.2.2.2.2; omega
      show (((w7.setCell _ _).setCell _ _).drew).heap[b]? = _
      exact (Below.heap_setCell _ _ _ b hne).trans (Below.heap_setCell _ _ _ b hne)
    · exact (below_set (below_set HBL.out (by show w.heap.size ≤ w.heap.size + 1 + 1; omega) _) (by show w.heap.size ≤ w.heap.size + 1 + 1; omega) _).drew

def TopQ (X : WPar) (vi : Int) (e : Ending) (w' : World) : Prop :=
  (∃ A n c m S, e = .returned (.tuple #[.agg #[.int .i64 vi, .slice A n c], .int .i64 m, .int .i64 0]) ∧ RdS w' (· < w'.heap.size) A n (zs S) ∧ n ≤ 6 ∧ n ≤ c ∧ GoodT X vi S) ∨
  (∃ ec : Int, e = .returned (.tuple #[.agg #[.int .i64 0, .slice none 0 0], .int .i64 0, .int .i64 ec]) ∧ ec ≠ 0)
set_option maxRecDepth 100000 in
set_option maxHeartbeats 3200000 in
theorem top_any {w : World} {X : WPar} {vi : Int} {A : Option Addr} {nd cd : Nat} {Dm : List Int} (hP : PInX w X) (hX : ∀ v ∈ X.V, WOk (X.on v)) (hT : tourE X.N X.E X.V X.D X.un X.us = 0) (hD : RdS w (· < w.heap.size) A nd (zs Dm)) (hnd : nd ≤ 3) (hcd : nd ≤ cd) :
    Calls Try.prog 6 #[.agg (PrbA X), .int .i64 vi, .slice A nd cd] w fun e w' => TopQ X vi e w' ∧ Below w.heap.size w w' := by
  have kp := (Blk.new w 28 (PrbA X)).alloc (.cells #[.int .i64 0, .slice none 0 0] 34)
  have kr := Blk.new1 w (.cells (PrbA X) 28) 34 #[.int .i64 0, .slice none 0 0]
  have hb1 : Below w.heap.size w ((w.alloc (.cells (PrbA X) 28)).alloc (.cells #[.int .i64 0, .slice none 0 0] 34)) := by go_grown
  obtain ⟨w1, hw1⟩ : ∃ w1, (w.alloc (.cells (PrbA X) 28)).alloc (.cells #[.int .i64 0, .slice none 0 0] 34) = w1 := ⟨_, rfl⟩
  rw [hw1] at kp kr hb1
  have y0 := kp.cell 0
  have y1 := kp.cell 1
  have y2 := kp.cell 2
  have y3 := kp.cell 3
  have y4 := kp.cell 4
  have y5 := kp.cell 5
  simp at y0 y1 y2 y3 y4 y5
  have HP := Lib.hid (hP.up hb1)
  have HD := Lib.hid (hD.up hb1)
  have HX := Lib.hid hX
  have HT := Lib.hid hT
  have HB1 := Lib.hid hb1
  have KP := Lib.hid kp
  have KR := Lib.hid kr
  clear hP hD hX hT kp kr hb1
  go_enter Try.func6, Try.ntmps6
  go_wp2_with fail
  refine (echeck_any (vi := vi) HP.out HD.out hnd hcd HT.out).mono ?_
  rintro e w2 ⟨⟨ec, rfl⟩, hb2⟩
  have k2 := KP.out.grow hb2
  have r2 := KR.out.grow hb2
  have HP2 := Lib.hid (HP.out.up hb2)
  have HD2 := Lib.hid (HD.out.up hb2)
  have HB2 := Lib.hid (bthen HB1.out hb2 HB1.out.size)
  clear hw1 hb2 y0 y1 y2 y3 y4 y5
  have y0 := k2.cell 0
  have y1 := k2.cell 1
  have y2 := k2.cell 2
  have y3 := k2.cell 3
  have y4 := k2.cell 4
  have y5 := k2.cell 5
  have x0 := r2.cell 0
  have x1 := r2.cell 1
  have z0 := r2.frozen 0
  have z1 := r2.frozen 1
  simp at y0 y1 y2 y3 y4 y5 x0 x1
  have KR2 := Lib.hid r2
  clear k2 r2
  by_cases hec : ec = 0
  · subst hec
    go_wp2_with fail
    refine (best_any (vi := vi) HP2.out HX.out HT.out HD2.out hnd).mono ?_
    rintro e w3 ⟨⟨A3, n3, c3, co, fd, S3, rfl, hr3, hn3, hc3, hg3⟩, hb3⟩
    have r3 := KR2.out.grow hb3
    have HB3 := Lib.hid (bthen HB2.out hb3 HB2.out.size)
    have hlt3 := r3.lt
    have k4 := Blk.new w3 34 #[.int .i64 vi, .slice A3 n3 c3]
    have r4 := r3.alloc (.cells #[.int .i64 vi, .slice A3 n3 c3] 34)
    have hb4 : Below w3.heap.size w3 (w3.alloc (.cells #[.int .i64 vi, .slice A3 n3 c3] 34)) := by go_grown
    obtain ⟨w4, hw4⟩ : ∃ w4, w3.alloc (.cells #[.int .i64 vi, .slice A3 n3 c3] 34) = w4 := ⟨_, rfl⟩
    obtain ⟨tb, htb⟩ : ∃ tb, w3.heap.size = tb := ⟨_, rfl⟩
    rw [hw4] at k4 r4 hb4
    rw [htb] at k4
    clear y0 y1 y2 y3 y4 y5 x0 x1 z0 z1
    have x0 := r4.cell 0
    have x1 := r4.cell 1
    have z0 := r4.frozen 0
    have z1 := r4.frozen 1
    have t0 := k4.cell 0
    have t1 := k4.cell 1
    simp at x0 x1 t0 t1
    have KR4 := Lib.hid r4
    have HB4 := Lib.hid (bthen HB3.out hb4 HB3.out.size)
    have hl2 := KR2.out.lt
    have HR4 : Hid (RdS w4 (fun b => w2.heap.size ≤ b ∧ b < w4.heap.size) A3 n3 (zs S3)) := Lib.hid ((hr3.keep (fun b hb => hb4.block b hb.2)).mono (fun b hb => ⟨hb.1, Nat.lt_of_lt_of_le hb.2 hb4.size⟩))
    have HQ : Hid (n3 ≤ 6 ∧ n3 ≤ c3 ∧ (fd = true → GoodT X vi S3)) := Lib.hid ⟨hn3, hc3, hg3⟩
    clear r3 r4 k4 hb3 hb4 hr3 hn3 hc3 hg3
    cases fd with
    | false =>
      go_wp2_with fail
      have K := (KR4.out.set_ 0 (.int .i64 0)).set_ 1 (.slice none 0 0)
      have d0 := K.cell 0
      have d1 := K.cell 1
      simp at d0 d1
      refine bodyPost_ret (v := .tuple #[.agg #[.int .i64 0, .slice none 0 0], .int .i64 0, .int .i64 40]) (by simp [results, Try.results6, go_sem, d0, d1]) rfl ⟨.inr ⟨40, rfl, by decide⟩, ?_⟩
      exact below_set (below_set HB4.out (by show w.heap.size ≤ w.heap.size + 1; omega) _) (by show w.heap.size ≤ w.heap.size + 1; omega) _
    | true =>
      go_wp2_with fail
      have K := (KR4.out.set_ 0 (.int .i64 vi)).set_ 1 (.slice A3 n3 c3)
      have d0 := K.cell 0
      have d1 := K.cell 1
      simp at d0 d1
      refine bodyPost_ret (v := .tuple #[.agg #[.int .i64 vi, .slice A3 n3 c3], .int .i64 co, .int .i64 0]) (by simp [results, Try.results6, go_sem, d0, d1]) rfl ⟨.inl ⟨A3, n3, c3, co, S3, rfl, ?_, HQ.out.1, HQ.out.2.1, HQ.out.2.2 (by first | rfl | trivial)⟩, ?_⟩
      · refine (HR4.out.keep (fun b hb => ?_)).mono (S' := fun b => b < _) (fun b hb => by simpa [World.setCell] using hb.2)
        have hne : b ≠ w.heap.size + 1 := by omega
        exact (Below.heap_setCell _ _ _ b hne).trans (Below.heap_setCell _ _ _ b hne)
      · exact below_set (below_set HB4.out (by show w.heap.size ≤ w.heap.size + 1; omega) _) (by show w.heap.size ≤ w.heap.size + 1; omega) _
  · have hec1 : (ec == 0) = false := by simpa using hec
    have HEC := Lib.hid hec
    clear hec
    go_wp2_with fail
    have K := (KR2.out.set_ 0 (.int .i64 0)).set_ 1 (.slice none 0 0)
    have d0 := K.cell 0
    have d1 := K.cell 1
    simp at d0 d1
    refine bodyPost_ret (v := .tuple #[.agg #[.int .i64 0, .slice none 0 0], .int .i64 0, .int .i64 ec]) (by simp [results, Try.results6, go_sem, d0, d1]) rfl ⟨.inr ⟨ec, rfl, HEC.out⟩, ?_⟩
    exact below_set (below_set HB2.out (by show w.heap.size ≤ w.heap.size + 1; omega) _) (by show w.heap.size ≤ w.heap.size + 1; omega) _
end Go.Proofs.Ytmoakdplhfgipaa
