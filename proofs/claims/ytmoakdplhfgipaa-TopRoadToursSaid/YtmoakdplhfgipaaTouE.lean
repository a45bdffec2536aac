/- Tours: serve at the place of unloading. -/
import Derived.Test.YtmoakdplhfgipaaTouD
import Derived.Test.YtmoakdplhfgipaaTouP
import Derived.Test.YtmoakdplhfgipaaIntA
namespace Go.Proofs.Ytmoakdplhfgipaa
set_option maxRecDepth 20000
open Go.RowKit Go.Maps

/-- what serve ends in -/
def StepQ (w0 : World) (X : WPar) (wb nm : Nat) (vs : List Vis) (r : Option (Plc × Vis)) (e : Ending) (w' : World) : Prop :=
  match r with
  | some (p', v) => e = .returned (.int .i64 0) ∧ TSx w0 w' X wb p' (vs ++ [v]) (nm + 1)
  | none => (∃ c : Int, e = .returned (.int .i64 c) ∧ c ≠ 0) ∧ Below w0.heap.size w0 w'
theorem TSx.up {w0 w w' : World} {X : WPar} {wb nm : Nat} {p : Plc} {vs : List Vis} (h : TSx w0 w X wb p vs nm) (hb : Below w.heap.size w w') : TSx w0 w' X wb p vs nm := by
  obtain ⟨mb, row, f, hs⟩ := h
  exact ⟨mb, row, f, hs.up hb⟩
theorem TSx.bel {w0 w : World} {X : WPar} {wb nm : Nat} {p : Plc} {vs : List Vis} (h : TSx w0 w X wb p vs nm) : Below w0.heap.size w0 w := by
  obtain ⟨mb, row, f, hs⟩ := h
  exact hs.bel
theorem TSx.lt {w0 w : World} {X : WPar} {wb nm : Nat} {p : Plc} {vs : List Vis} (h : TSx w0 w X wb p vs nm) : wb < w.heap.size := by
  obtain ⟨mb, row, f, hs⟩ := h
  exact hs.blk.lt
theorem trav_x {w0 w : World} {X : WPar} {wb nm : Nat} {p : Plc} {vs : List Vis} (h : TSx w0 w X wb p vs nm) (to_ s d : Int)
    (h1 : 0 ≤ p.t) (h2 : p.t ≤ 1000000000000) (h3 : 0 ≤ p.m) (h4 : p.m ≤ 1000000000000) (h5 : 0 ≤ s) (h6 : s ≤ 1000000000000) (h7 : 0 ≤ d) (h8 : d ≤ 1000000000000) :
    Calls Try.prog 52 #[.pointer (some ⟨wb, 0, none⟩), .int .i64 to_, .agg #[.int .i64 s, .int .i64 d]] w fun e w' => e = .returned (.tuple #[]) ∧ TSx w0 w' X wb ⟨to_, p.t + s, p.l, p.m + d⟩ vs nm ∧ Kp (fun b => b = wb) w w' := by
  obtain ⟨mb, row, f, hs⟩ := h
  refine (travel_any hs.blk to_ s d h1 h2 h3 h4 h5 h6 h7 h8).mono ?_
  rintro e w' ⟨rfl, hb, hk⟩
  exact ⟨rfl, ⟨mb, row, f, hs.place (p' := ⟨to_, p.t + s, p.l, p.m + d⟩) hb hk⟩, hk⟩
/-- one cell of the place written -/
theorem TSx.setT {w0 w : World} {X : WPar} {wb nm : Nat} {p : Plc} {vs : List Vis} (h : TSx w0 w X wb p vs nm) (t : Int) : TSx w0 (w.setCell ⟨wb, 1, none⟩ (.int .i64 t)) X wb ⟨p.n, t, p.l, p.m⟩ vs nm := by
  obtain ⟨mb, row, f, hs⟩ := h
  exact ⟨mb, row, f, hs.place (p' := ⟨p.n, t, p.l, p.m⟩) (by have := hs.blk.set_ 1 (.int .i64 t); simpa [WA] using this) (Kp.set (S := fun b => b = wb) (Kp.refl _ _) (p := ⟨wb, 1, none⟩) rfl _)⟩
theorem TSx.setL {w0 w : World} {X : WPar} {wb nm : Nat} {p : Plc} {vs : List Vis} (h : TSx w0 w X wb p vs nm) (l : Int) : TSx w0 (w.setCell ⟨wb, 2, none⟩ (.int .i64 l)) X wb ⟨p.n, p.t, l, p.m⟩ vs nm := by
  obtain ⟨mb, row, f, hs⟩ := h
  exact ⟨mb, row, f, hs.place (p' := ⟨p.n, p.t, l, p.m⟩) (by have := hs.blk.set_ 2 (.int .i64 l); simpa [WA] using this) (Kp.set (S := fun b => b = wb) (Kp.refl _ _) (p := ⟨wb, 2, none⟩) rfl _)⟩
theorem TSx.cells {w0 w : World} {X : WPar} {wb nm : Nat} {p : Plc} {vs : List Vis} (h : TSx w0 w X wb p vs nm) : (w.cell? ⟨wb, 0, none⟩ = some (.int .i64 p.n) ∧ w.cell? ⟨wb, 1, none⟩ = some (.int .i64 p.t) ∧ w.cell? ⟨wb, 2, none⟩ = some (.int .i64 p.l) ∧ w.cell? ⟨wb, 3, none⟩ = some (.int .i64 p.m)) ∧ ∀ j, w.frozen? ⟨wb, j, none⟩ = false := by
  obtain ⟨mb, row, f, hs⟩ := h
  exact ⟨⟨hs.blk.cell 0, hs.blk.cell 1, hs.blk.cell 2, hs.blk.cell 3⟩, fun j => hs.blk.frozen j⟩
theorem TSx.par {w0 w : World} {X : WPar} {wb nm : Nat} {p : Plc} {vs : List Vis} (h : TSx w0 w X wb p vs nm) : w.cell? ⟨wb, 7, none⟩ = some (.slice X.AD X.nD X.cD) ∧ w.cell? ⟨wb, 8, none⟩ = some (.int .i64 X.un) ∧ w.cell? ⟨wb, 9, none⟩ = some (.int .i64 X.us) ∧ w.cell? ⟨wb, 10, none⟩ = some (.string X.v.id) ∧ w.cell? ⟨wb, 11, none⟩ = some (.int .i64 X.v.depot) ∧ w.cell? ⟨wb, 12, none⟩ = some (.int .i64 X.v.from_) ∧ w.cell? ⟨wb, 13, none⟩ = some (.int .i64 X.v.to_) ∧ w.cell? ⟨wb, 14, none⟩ = some (.int .i64 X.v.gr) ∧ w.cell? ⟨wb, 15, none⟩ = some (.int .i64 X.v.kinds) := by
  obtain ⟨mb, row, f, hs⟩ := h
  exact ⟨hs.blk.cell 7, hs.blk.cell 8, hs.blk.cell 9, hs.blk.cell 10, hs.blk.cell 11, hs.blk.cell 12, hs.blk.cell 13, hs.blk.cell 14, hs.blk.cell 15⟩
theorem TSx.prb {w0 w : World} {X : WPar} {wb nm : Nat} {p : Plc} {vs : List Vis} (h : TSx w0 w X wb p vs nm) : PIn w0 X.AE X.nE X.E X.AV X.nV X.V X.AD X.nD X.cD X.D := by
  obtain ⟨mb, row, f, hs⟩ := h
  exact hs.prb
set_option maxRecDepth 100000 in
set_option maxHeartbeats 6400000 in
theorem serve_un {w0 w : World} {X : WPar} {wb nm i : Nat} {p : Plc} {vs : List Vis} {vi : Int} {A : Option Addr} {n c k : Nat} {S : List Int} (h : TSx w0 w X wb p vs nm) (hX : WOk X) (hp : PlB X i p) (hi : i ≤ 100) (hnm : nm ≤ 1000) (hvs : vs.length ≤ 1000) (hS : RdS w0 (· < w0.heap.size) A n (zs S)) (hk : k < n) (hs : S[k]? = some (-1)) :
    Calls Try.prog 30 #[.pointer (some ⟨wb, 0, none⟩), .agg #[.int .i64 vi, .slice A n c], .int .i64 (k : Int)] w fun e w' => StepQ w0 X wb nm vs (stepU X p) e w' := by
  obtain ⟨b, o, rfl, hb, hcc⟩ := hS.2 (by omega)
  have hb1 : Below w.heap.size w (w.alloc (.cells #[.int .i64 vi, .slice (some ⟨b, o, none⟩) n c] 34)) := by go_grown
  have h1 := h.up hb1
  have kt := Blk.new w 34 #[.int .i64 vi, .slice (some ⟨b, o, none⟩) n c]
  obtain ⟨w1, hw1⟩ : ∃ w1, w.alloc (.cells #[.int .i64 vi, .slice (some ⟨b, o, none⟩) n c] 34) = w1 := ⟨_, rfl⟩
  rw [hw1] at h1 kt
  have c0 : w1.cell? ⟨b, o + k, none⟩ = some (.int .i64 (-1)) := (World.cell?_of_block (a := ⟨b, o + k, none⟩) (h1.bel.block b hb)).trans (hcc k _ (zs_at hs))
  have t0 := kt.cell 0
  have t1 := kt.cell 1
  simp at t0 t1
  have H1 := Lib.hid h1
  obtain ⟨mb, row, f, hs1⟩ := h1
  have a8 := hs1.blk.cell 8
  simp at a8
  have HX := Lib.hid hX
  have HP := Lib.hid hp
  clear h kt hs1 hcc hX hp hS hs
  go_enter Try.func30, Try.ntmps30
  go_wp2_with fail
  clear hw1
  refine (leg_any H1.out HX.out.net hnm HP.out.n0 HP.out.n1 HX.out.un0 HX.out.un1).mono ?_
  rintro e w2 ⟨rfl, hl2, h2⟩
  obtain ⟨hw1', hw2', hw3'⟩ := way_bnd hl2 HX.out.un0 HX.out.un1
  have HSU : Hid (stepU X p = if 0 ≤ (wayOf X p.n X.un).s then some (⟨X.un, p.t + (wayOf X p.n X.un).s + X.us, 0, p.m + (wayOf X p.n X.un).m⟩, ⟨-1, X.un, p.t + (wayOf X p.n X.un).s, p.t + (wayOf X p.n X.un).s, p.t + (wayOf X p.n X.un).s + X.us, 0⟩) else none) := Lib.hid (by
    unfold stepU
    by_cases hc : 0 ≤ (wayOf X p.n X.un).s
    · rw [if_pos hc, if_pos ⟨hl2, hc⟩]
    · rw [if_neg hc, if_neg (fun h => hc h.2)])
  obtain ⟨⟨ls, lm⟩, hl⟩ : ∃ l, wayOf X p.n X.un = l := ⟨_, rfl⟩
  rw [hl] at HSU hw1' hw2' hw3' ⊢
  simp only at HSU hw1' hw2' hw3' ⊢
  have H2 := Lib.hid h2
  clear hl hl2 h2 a8 t0 t1 c0
  by_cases hc : 0 ≤ ls
  · rw [if_pos hc] at HSU
    rw [decide_eq_true hc]
    have hb3 : Below w2.heap.size w2 (w2.alloc (.cells #[.int .i64 ls, .int .i64 lm] 50)) := by go_grown
    have h3 := H2.out.up hb3
    have kl := Blk.new w2 50 #[.int .i64 ls, .int .i64 lm]
    have hlt := H2.out.lt
    obtain ⟨w3, hw3⟩ : ∃ w3, w2.alloc (.cells #[.int .i64 ls, .int .i64 lm] 50) = w3 := ⟨_, rfl⟩
    obtain ⟨lb, hlb⟩ : ∃ lb, w2.heap.size = lb := ⟨_, rfl⟩
    rw [hw3] at h3 kl
    rw [hlb] at kl hlt
    have H3 := Lib.hid h3
    have KL := Lib.hid kl
    clear h3 kl hb3
    go_wp2_with fail
    clear hw3 hlb
    have HLS : Hid (∀ W, Kp (fun b => b = wb) w3 W → W.cell? ⟨lb, 0, none⟩ = some (.int .i64 ls) ∧ W.cell? ⟨lb, 1, none⟩ = some (.int .i64 lm)) := Lib.hid (fun W hW => by
      have k := hW.blk KL.out (by omega)
      exact ⟨k.cell 0, k.cell 1⟩)
    have HKD : Hid (Kp (fun b => b = wb) w3 w3.drew) := Lib.hid (Kp.of ((Below.refl _ _).drew))
    have HD3 : Hid (TSx w0 w3.drew X wb p vs (nm + 1)) := Lib.hid (H3.out.up ((Below.refl _ _).drew))
    have pt0 := HP.out.t0
    have pt1 := HP.out.t1
    have pm0 := HP.out.m0
    have pm1 := HP.out.m1
    go_region_held3 (fun W => W.cell? ⟨lb, 0, none⟩ = some (.int .i64 ls) ∧ W.cell? ⟨lb, 1, none⟩ = some (.int .i64 lm))
      (first | exact HLS.out _ HKD.out | exact HLS.out _ HK4.out)
      (first
        | (go_at_call 52; refine (trav_x HD3.out X.un ls lm pt0 (by omega) pm0 (by omega) hc (by omega) (by omega) (by omega)).mono ?_; rintro e w4 ⟨rfl, h4, hk4⟩; have H4 := Lib.hid h4; have HK4 := Lib.hid (HKD.out.trans hk4); clear h4 hk4))
    have us0 := HX.out.us0
    have us1 := HX.out.us1
    have hwr : IntKind.i64.wrap (p.t + ls + X.us) = p.t + ls + X.us := IntWalk.i64_in _ (by omega)
    obtain ⟨⟨_, a1, a2, _⟩, hfz⟩ := H4.out.cells
    obtain ⟨_, _, a9, _⟩ := H4.out.par
    have f1 := hfz 1
    have f2 := hfz 2
    simp only at a1 a2
    have H5 := Lib.hid ((H4.out.setT (p.t + ls + X.us)).up (w' := (w4.setCell ⟨wb, 1, none⟩ (.int .i64 (p.t + ls + X.us))).drew) ((Below.refl _ _).drew))
    have H6 := Lib.hid (H5.out.setL 0)
    clear hfz
    go_wp2_with fail
    go_region
    obtain ⟨w5, hw5⟩ : ∃ w5, (w4.setCell ⟨wb, 1, none⟩ (.int .i64 (p.t + ls + X.us))).drew = w5 := ⟨_, rfl⟩
    rw [hw5] at H5 H6
    clear a1 a2 a9 f1 f2
    obtain ⟨⟨_, b1, b2, _⟩, hfz⟩ := H5.out.cells
    have f2 := hfz 2
    simp only at b1 b2
    clear hfz
    try rw [hw5]
    obtain ⟨w6, hw6⟩ : ∃ w6, w5.setCell ⟨wb, 2, none⟩ (.int .i64 0) = w6 := ⟨_, rfl⟩
    rw [hw6] at H6
    go_wp2_with fail
    clear hw5 hw6 b1 b2 f2
    refine (note_any H6.out hvs (-1) (p.t + ls) (p.t + ls)).mono ?_
    rintro e w7 ⟨rfl, h7⟩
    have H7 := Lib.hid h7
    clear h7
    go_wp2_with fail
    go_ret
    rw [HSU.out]
    exact ⟨rfl, H7.out⟩
  · rw [if_neg hc] at HSU
    rw [decide_eq_false hc]
    go_wp2_with fail
    go_ret
    rw [HSU.out]
    exact ⟨⟨22, rfl, by decide⟩, (H2.out.up (by go_grown)).bel⟩
end Go.Proofs.Ytmoakdplhfgipaa
