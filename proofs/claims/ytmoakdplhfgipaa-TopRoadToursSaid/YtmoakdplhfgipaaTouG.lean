/- Tours: the way back. -/
import Derived.Test.YtmoakdplhfgipaaTouF
namespace Go.Proofs.Ytmoakdplhfgipaa
set_option maxRecDepth 20000
open Go.RowKit Go.Maps

/-- what back ends in -/
def BackQ (w0 : World) (X : WPar) (wb nm : Nat) (r : Option (Plc × List Vis)) (e : Ending) (w' : World) : Prop :=
  match r with
  | some (p', vs') => e = .returned (.int .i64 0) ∧ TSx w0 w' X wb p' vs' nm
  | none => (∃ c : Int, e = .returned (.int .i64 c) ∧ c ≠ 0) ∧ Below w0.heap.size w0 w'
set_option maxRecDepth 100000 in
set_option maxHeartbeats 6400000 in
theorem back_any {w0 w : World} {X : WPar} {wb nm i : Nat} {p : Plc} {vs : List Vis} (h : TSx w0 w X wb p vs nm) (hX : WOk X) (hp : PlB X i p) (hi : i ≤ 100) (hnm : nm ≤ 1000) (hvs : vs.length ≤ 1000) :
    Calls Try.prog 31 #[.pointer (some ⟨wb, 0, none⟩)] w fun e w' => BackQ w0 X wb (nm + 1) (backP X p vs) e w' := by
  have H1 := Lib.hid h
  have HX := Lib.hid hX
  have HP := Lib.hid hp
  obtain ⟨_, _, _, _, a11, _⟩ := h.par
  clear h hX hp
  go_enter Try.func31, Try.ntmps31
  go_wp2_with fail
  refine (leg_any H1.out HX.out.net hnm HP.out.n0 HP.out.n1 HX.out.d0 HX.out.d1).mono ?_
  rintro e w2 ⟨rfl, hl2, h2⟩
  obtain ⟨hw1', hw2', hw3'⟩ := way_bnd hl2 HX.out.d0 HX.out.d1
  have HSU : Hid (backP X p vs = if 0 ≤ (wayOf X p.n X.v.depot).s ∧ p.l = 0 ∧ p.t + (wayOf X p.n X.v.depot).s < X.v.to_ then some (⟨X.v.depot, p.t + (wayOf X p.n X.v.depot).s, 0, p.m + (wayOf X p.n X.v.depot).m⟩, vs ++ [⟨-2, X.v.depot, p.t + (wayOf X p.n X.v.depot).s, p.t + (wayOf X p.n X.v.depot).s, p.t + (wayOf X p.n X.v.depot).s, 0⟩]) else none) := Lib.hid (by
    unfold backP
    by_cases hc : 0 ≤ (wayOf X p.n X.v.depot).s ∧ p.l = 0 ∧ p.t + (wayOf X p.n X.v.depot).s < X.v.to_
    · rw [if_pos hc, if_pos ⟨⟨hl2, hc.1⟩, hc.2⟩]
    · rw [if_neg hc, if_neg (fun h => hc ⟨h.1.2, h.2⟩)])
  obtain ⟨⟨ls, lm⟩, hl⟩ : ∃ l, wayOf X p.n X.v.depot = l := ⟨_, rfl⟩
  rw [hl] at HSU hw1' hw2' hw3' ⊢
  simp only at HSU hw1' hw2' hw3' ⊢
  have H2 := Lib.hid h2
  clear hl hl2 h2 a11
  by_cases hc : 0 ≤ ls
  · rw [decide_eq_true hc]
    have hb3 : Below w2.heap.size w2 (w2.alloc (.cells #[.int .i64 ls, .int .i64 lm] 50)) := by go_grown
    have h3 := H2.out.up hb3
    have kl := Blk.new w2 50 #[.int .i64 ls, .int .i64 lm]
    have hlt := H2.out.lt
    obtain ⟨w3, hw3⟩ : ∃ w3, w2.alloc (.cells #[.int .i64 ls, .int .i64 lm] 50) = w3 := ⟨_, rfl⟩
    obtain ⟨lb, hlb⟩ : ∃ lb, w2.heap.size = lb := ⟨_, rfl⟩
    rw [hw3] at h3 kl
    rw [hlb] at kl hlt
    have H3 := Lib.hid h3
    have KL := Lib.hid kl
    obtain ⟨⟨_, _, a2, _⟩, _⟩ := h3.cells
    clear h3 kl hb3
    by_cases hp0 : p.l = 0
    · have hpd : (p.l == 0) = true := by simpa using hp0
      go_wp2_with fail
      clear hw3 hlb
      have HLS : Hid (∀ W, Kp (fun b => b = wb) w3 W → W.cell? ⟨lb, 0, none⟩ = some (.int .i64 ls) ∧ W.cell? ⟨lb, 1, none⟩ = some (.int .i64 lm)) := Lib.hid (fun W hW => by
        have k := hW.blk KL.out (by omega)
        exact ⟨k.cell 0, k.cell 1⟩)
      have HKD : Hid (Kp (fun b => b = wb) w3 w3.drew) := Lib.hid (Kp.of ((Below.refl _ _).drew))
      have HD3 : Hid (TSx w0 w3.drew X wb p vs (nm + 1)) := Lib.hid (H3.out.up ((Below.refl _ _).drew))
      have pt0 := HP.out.t0
      have pt1 := HP.out.t1
      have pm0 := HP.out.m0
      have pm1 := HP.out.m1
      clear a2
      go_region_held3 (fun W => W.cell? ⟨lb, 0, none⟩ = some (.int .i64 ls) ∧ W.cell? ⟨lb, 1, none⟩ = some (.int .i64 lm) ∧ W.cell? ⟨wb, 11, none⟩ = some (.int .i64 X.v.depot))
        (first | exact ⟨(HLS.out _ HKD.out).1, (HLS.out _ HKD.out).2, HD3.out.par.2.2.2.2.1⟩ | exact ⟨(HLS.out _ HK4.out).1, (HLS.out _ HK4.out).2, H4.out.par.2.2.2.2.1⟩)
        (first
          | (go_at_call 52; refine (trav_x HD3.out X.v.depot ls lm pt0 (by omega) pm0 (by omega) hc (by omega) (by omega) (by omega)).mono ?_; rintro e w4 ⟨rfl, h4, hk4⟩; have H4 := Lib.hid h4; have HK4 := Lib.hid (HKD.out.trans hk4); clear h4 hk4))
      obtain ⟨⟨_, a1, _, _⟩, _⟩ := H4.out.cells
      obtain ⟨_, _, _, _, _, _, a13, _⟩ := H4.out.par
      simp only at a1
      by_cases g1 : p.t + ls < X.v.to_
      · have g1d : decide (p.t + ls ≥ X.v.to_) = false := by simp; omega
        rw [if_pos ⟨hc, hp0, g1⟩] at HSU
        go_wp2_with fail
        go_quiet (fail)
        go_wp2_with fail
        have H5 := Lib.hid (H4.out.up (belowN (Below.refl _ _) nq))
        obtain ⟨w5, hw5⟩ : ∃ w5, w4.drewN nq = w5 := ⟨_, rfl⟩
        rw [hw5] at H5 ⊢
        clear hw5 a1 a13
        have HD5 : Hid (TSx w0 w5.drew X wb _ vs (nm + 1)) := Lib.hid (H5.out.up ((Below.refl _ _).drew))
        go_region_held3 (fun W => W.cell? ⟨wb, 1, none⟩ = some (.int .i64 (p.t + ls)))
          (first | exact HD5.out.cells.1.2.1 | exact H6.out.cells.1.2.1)
          (first
            | (go_at_call 53; refine (note_any HD5.out hvs (-2) (p.t + ls) (p.t + ls)).mono ?_; rintro e w6 ⟨rfl, h6⟩; have H6 := Lib.hid h6; clear h6))
        go_wp2_with fail
        go_ret
        rw [HSU.out]
        have h6 := H6.out
        rw [hp0] at h6
        exact ⟨rfl, h6⟩
      · have g1d : decide (p.t + ls ≥ X.v.to_) = true := by simp; omega
        rw [if_neg (fun h => g1 h.2.2)] at HSU
        go_wp2_with fail
        go_quiet (fail)
        go_wp2_with fail
        go_ret
        rw [HSU.out]
        exact ⟨⟨19, rfl, by decide⟩, (H4.out.up (belowN (Below.refl _ _) nq)).bel⟩
    · have hpd : (p.l == 0) = false := by simpa using hp0
      rw [if_neg (fun h => hp0 h.2.1)] at HSU
      go_wp2_with fail
      go_ret
      rw [HSU.out]
      exact ⟨⟨20, rfl, by decide⟩, H3.out.bel⟩
  · rw [if_neg (fun h => hc h.1)] at HSU
    rw [decide_eq_false hc]
    go_wp2_with fail
    go_ret
    rw [HSU.out]
    exact ⟨⟨22, rfl, by decide⟩, (H2.out.up (by go_grown)).bel⟩
end Go.Proofs.Ytmoakdplhfgipaa
