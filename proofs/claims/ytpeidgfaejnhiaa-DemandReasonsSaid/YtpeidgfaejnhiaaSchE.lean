/- Contracts of schedule.Due and of the reference's Due. -/
import Derived.Test.YtpeidgfaejnhiaaSchD
namespace Go.Proofs.Ytpeidgfaejnhiaa
open Go.RowKit Go.Maps

theorem sch_val {E : Int} {w : World} {s : Sch} (he : schE s = E) (h : SchIn w s) : Calls Try.prog 28 #[.agg s.vs] w fun e w' => e = .returned (.int .i64 E) ∧ Below w.heap.size w w' := by rw [← he]; exact sch_any s h
theorem rsch_val {E : Int} {w : World} {s : Sch} (he : schE s = E) (h : SchIn w s) : Calls Try.prog 51 #[.agg s.vs] w fun e w' => e = .returned (.int .i64 E) ∧ Below w.heap.size w w' := by rw [← he]; exact rsch_any s h
theorem schE_zero {s : Sch} (h : schE s = 0) : stevP s.start s.every ∧ s.mv.length ≤ 32 := by
  unfold schE at h
  split at h
  · cases h
  · rename_i hr
    split at h
    · cases h
    · exact ⟨stev_of hr, by omega⟩

set_option maxRecDepth 100000 in
set_option maxHeartbeats 1600000 in
theorem isdue_any {w : World} (s : Sch) (h : SchIn w s) (d : Int) (hd : i64ok d) :
    Calls Try.prog 18 #[.agg s.vs, .int .i64 d] w fun e w' => e = .returned (.bool (isDue s d)) ∧ Below w.heap.size w w' := by
  have hlen := h.len
  have K0 : Hid (Blk (w.alloc (.cells s.vs 45)) w.heap.size 45 s.vs) := Lib.hid (Blk.new _ _ _)
  have H := Lib.hid h
  have HD := Lib.hid hd
  clear h hd
  by_cases he : schE s = 0
  · obtain ⟨z1, z2⟩ := schE_zero he
    have HST := Lib.hid z1
    have HN : Hid (s.n ≤ 32) := Lib.hid (by rw [← hlen]; exact z2)
    have HE := Lib.hid he
    have HR : Hid (isDue s d = (heldO s.mv d).getD (patB s.start s.every d)) := Lib.hid (by unfold isDue; rw [decide_eq_true he]; rfl)
    obtain ⟨D, hDD⟩ : ∃ D, isDue s d = D := ⟨_, rfl⟩
    rw [hDD] at HR ⊢
    clear he z1 z2 hDD hlen
    obtain ⟨con, st, ev, A, n, c, mv⟩ := s
    simp only at K0 H HST HN HE HR ⊢
    go_enter Try.func18, Try.ntmps18
    go_wp2_with fail
    obtain ⟨w0, hw0, hb0⟩ : ∃ w0, w.alloc (.cells #[.int .i64 con, .int .i64 st, .int .i64 ev, .slice A n c] 45) = w0 ∧ Below w.heap.size w w0 := ⟨_, rfl, by go_grown⟩
    have hs0 : w0.heap.size = w.heap.size + 1 := by rw [← hw0]; simp
    rw [hw0] at K0 ⊢
    have HB0 := Lib.hid hb0
    clear hw0 hb0
    have HS : Hid (∀ W, Below w0.heap.size w0 W → (W.cell? ⟨w.heap.size, 0, none⟩ = some (.int .i64 con) ∧ W.cell? ⟨w.heap.size, 1, none⟩ = some (.int .i64 st) ∧ W.cell? ⟨w.heap.size, 2, none⟩ = some (.int .i64 ev) ∧ W.cell? ⟨w.heap.size, 3, none⟩ = some (.slice A n c))) := Lib.hid (fun W hW => by
      have kq := K0.out.grow hW
      exact ⟨kq.cell 0, kq.cell 1, kq.cell 2, kq.cell 3⟩)
    have HSI : Hid (∀ W, Below w0.heap.size w0 W → SchIn W ⟨con, st, ev, A, n, c, mv⟩) := Lib.hid (fun W hW => H.out.up (bthen HB0.out hW (by omega)))
    have HRF := Lib.hid (Below.refl w0.heap.size w0)
    have HBN := Lib.hid (HRF.out.drew)
    go_region_held3 (fun W => W.cell? ⟨w.heap.size, 0, none⟩ = some (.int .i64 con) ∧ W.cell? ⟨w.heap.size, 1, none⟩ = some (.int .i64 st) ∧ W.cell? ⟨w.heap.size, 2, none⟩ = some (.int .i64 ev) ∧ W.cell? ⟨w.heap.size, 3, none⟩ = some (.slice A n c))
      (first | exact HS.out _ HBN.out | exact HS.out _ HRF.out)
      (first
        | (go_at_call 28; ((with_reducible refine (sch_val HE.out (HSI.out _ HBN.out)).mono ?_); rintro e wN ⟨rfl, hbN⟩; have HBN := Lib.hid (bthen HBN.out hbN HBN.out.size); clear hbN))
        | (go_at_call 30; ((with_reducible refine (held_any _ (HSI.out _ HBN.out) HN.out).mono ?_); rintro e wM ⟨mb, rfl, hmb, hbM⟩; have HMB := Lib.hid hmb; have HBN := Lib.hid (bthen HBN.out hbM HBN.out.size); clear hmb hbM))
        | (go_at_call 29; ((with_reducible refine (due_any _ (HSI.out _ HBN.out) HST.out HMB.out _ HD.out).mono ?_); rintro e wK ⟨rfl, hbK⟩; have HBN := Lib.hid (bthen HBN.out hbK HBN.out.size); clear hbK)))
    go_wp2
    go_ret
    exact ⟨ret_bool HR.out.symm, bthen HB0.out HBN.out (by omega)⟩
  · have hq : (schE s == 0) = false := by simpa using he
    have HR : Hid (isDue s d = false) := Lib.hid (by unfold isDue; rw [decide_eq_false he]; rfl)
    obtain ⟨D, hDD⟩ : ∃ D, isDue s d = D := ⟨_, rfl⟩
    rw [hDD] at HR ⊢
    obtain ⟨E, hEE⟩ : ∃ E, schE s = E := ⟨_, rfl⟩
    rw [hEE] at hq
    have HE := Lib.hid hEE
    clear he hDD hlen hEE
    obtain ⟨con, st, ev, A, n, c, mv⟩ := s
    try simp only at K0 H HE ⊢
    go_enter Try.func18, Try.ntmps18
    go_wp2_with fail
    have HB : Hid (Below w.heap.size w (w.alloc (.cells #[.int .i64 con, .int .i64 st, .int .i64 ev, .slice A n c] 45)).drew) := Lib.hid (((Below.refl _ w).alloc (Nat.le_refl _) _).drew)
    first | (go_region_with (first | (go_at_call 28; ((with_reducible refine (sch_val HE.out (H.out.up HB.out)).mono ?_); rintro e wN ⟨rfl, hbN⟩; have HBN := Lib.hid (bthen HB.out hbN HB.out.size); clear hbN)))) | fail
    all_goals
      go_wp2
      go_ret
      exact ⟨ret_bool HR.out.symm, HBN.out⟩

set_option maxRecDepth 100000 in
set_option maxHeartbeats 1600000 in
theorem risdue_any {w : World} (s : Sch) (h : SchIn w s) (d : Int) :
    Calls Try.prog 39 #[.agg s.vs, .int .i64 d] w fun e w' => e = .returned (.bool (isDue s d)) ∧ Below w.heap.size w w' := by
  have K0 : Hid (Blk (w.alloc (.cells s.vs 45)) w.heap.size 45 s.vs) := Lib.hid (Blk.new _ _ _)
  have H := Lib.hid h
  clear h
  have HB : Hid (Below w.heap.size w (w.alloc (.cells s.vs 45))) := Lib.hid ((Below.refl _ w).alloc (Nat.le_refl _) _)
  by_cases he : schE s = 0
  · obtain ⟨z1, z2⟩ := schE_zero he
    have HST := Lib.hid z1
    have HE := Lib.hid he
    have HR : Hid (isDue s d = dueB s d) := Lib.hid (by unfold isDue; rw [decide_eq_true he]; rfl)
    obtain ⟨D, hDD⟩ : ∃ D, isDue s d = D := ⟨_, rfl⟩
    rw [hDD] at HR ⊢
    clear he z1 z2 hDD
    obtain ⟨con, st, ev, A, n, c, mv⟩ := s
    simp only at K0 H HST HE HR HB ⊢
    go_enter Try.func39, Try.ntmps39
    go_wp2_with (first
      | (go_at_call 51; ((with_reducible refine (rsch_val HE.out (H.out.up HB.out)).mono ?_); rintro e wN ⟨rfl, hbN⟩; have kn := K0.out.grow hbN; have n0 := kn.cell 0; have n1 := kn.cell 1; have n2 := kn.cell 2; have n3 := kn.cell 3; simp at n0 n1 n2 n3; have HBN := Lib.hid (bthen HB.out hbN HB.out.size); clear hbN kn))
      | (go_at_call 52; ((with_reducible refine (rday17_any ⟨con, st, ev, A, n, c, mv⟩ (H.out.up HBN.out) HST.out _).mono ?_); rintro e wM ⟨rfl, hbM⟩; have HBM := Lib.hid (bthen HBN.out hbM HBN.out.size); clear hbM)))
    go_ret
    exact ⟨ret_bool HR.out.symm, HBM.out⟩
  · have hq : (schE s == 0) = false := by simpa using he
    have HR : Hid (isDue s d = false) := Lib.hid (by unfold isDue; rw [decide_eq_false he]; rfl)
    obtain ⟨D, hDD⟩ : ∃ D, isDue s d = D := ⟨_, rfl⟩
    rw [hDD] at HR ⊢
    obtain ⟨E, hEE⟩ : ∃ E, schE s = E := ⟨_, rfl⟩
    rw [hEE] at hq
    have HE := Lib.hid hEE
    clear he hDD hEE
    obtain ⟨con, st, ev, A, n, c, mv⟩ := s
    try simp only at K0 H HE HB ⊢
    go_enter Try.func39, Try.ntmps39
    go_wp2_with (first
      | (go_at_call 51; ((with_reducible refine (rsch_val HE.out (H.out.up HB.out)).mono ?_); rintro e wN ⟨rfl, hbN⟩; have HBN := Lib.hid (bthen HB.out hbN HB.out.size); clear hbN)))
    go_ret
    exact ⟨ret_bool HR.out.symm, HBN.out⟩
end Go.Proofs.Ytpeidgfaejnhiaa
