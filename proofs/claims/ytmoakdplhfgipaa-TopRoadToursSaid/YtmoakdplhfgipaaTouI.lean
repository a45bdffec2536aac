/- Tours: Cost and Walk. -/
import Derived.Test.YtmoakdplhfgipaaTouH
namespace Go.Proofs.Ytmoakdplhfgipaa
set_option maxRecDepth 20000
open Go.RowKit Go.Maps

def CostQ (X : WPar) (vi : Int) (S : List Int) (e : Ending) : Prop := ∃ m c : Int, e = .returned (.tuple #[.int .i64 m, .int .i64 c]) ∧ (c = 0 → GoodT X vi S)
set_option maxRecDepth 100000 in
set_option maxHeartbeats 3200000 in
theorem cost_any {w : World} {X : WPar} {vi : Int} {A : Option Addr} {n c : Nat} {S : List Int} (hP : PInX w X) (hS : RdS w (· < w.heap.size) A n (zs S)) (hn : n ≤ 40) (hc : n ≤ c) (hX : ∀ v ∈ X.V, WOk (X.on v)) (hT : tourE X.N X.E X.V X.D X.un X.us = 0) :
    Calls Try.prog 25 #[.agg (PrbA X), .agg #[.int .i64 vi, .slice A n c]] w fun e w' => CostQ X vi S e ∧ Below w.heap.size w w' := by
  have kp := Blk.new w 28 (PrbA X)
  have kt := Blk.new1 w (.cells (PrbA X) 28) 34 #[.int .i64 vi, .slice A n c]
  have kp1 := kp.alloc (.cells #[.int .i64 vi, .slice A n c] 34)
  have hb1 : Below w.heap.size w ((w.alloc (.cells (PrbA X) 28)).alloc (.cells #[.int .i64 vi, .slice A n c] 34)) := by go_grown
  obtain ⟨w1, hw1⟩ : ∃ w1, (w.alloc (.cells (PrbA X) 28)).alloc (.cells #[.int .i64 vi, .slice A n c] 34) = w1 := ⟨_, rfl⟩
  rw [hw1] at kt kp1 hb1
  have y0 := kp1.cell 0
  have y1 := kp1.cell 1
  have y2 := kp1.cell 2
  have y3 := kp1.cell 3
  have y4 := kp1.cell 4
  have y5 := kp1.cell 5
  simp at y0 y1 y2 y3 y4 y5
  have HP1 := Lib.hid (hP.up hb1)
  have HS1 := Lib.hid (hS.up hb1)
  have HX := Lib.hid hX
  have HT := Lib.hid hT
  have HB1 := Lib.hid hb1
  have KP := Lib.hid kp1
  have KT := Lib.hid kt
  clear hP hS hX hT kp kt kp1 hb1
  go_enter Try.func25, Try.ntmps25
  go_wp2_with fail
  refine (tour_check_any HP1.out).mono ?_
  rw [HT.out]
  rintro e w2 ⟨rfl, hb2⟩
  have k2 := KP.out.grow hb2
  have kt2 := KT.out.grow hb2
  clear hw1 y0 y1 y2 y3 y4 y5
  have y0 := k2.cell 0
  have y1 := k2.cell 1
  have y2 := k2.cell 2
  have y3 := k2.cell 3
  have y4 := k2.cell 4
  have y5 := k2.cell 5
  have t0 := kt2.cell 0
  have t1 := kt2.cell 1
  simp at y0 y1 y2 y3 y4 y5 t0 t1
  have HP2 := Lib.hid (HP1.out.up hb2)
  have HS2 := Lib.hid (HS1.out.up hb2)
  have HB2 := Lib.hid (bthen HB1.out hb2 HB1.out.size)
  clear hb2 k2 kt2
  go_wp2_with fail
  refine (follow_any (X := X) (vi := vi) (c := c) HP2.out HS2.out hn hc HX.out).mono ?_
  rintro e w3 (⟨v, p, vs, wb, nm, w4, hv0, hv, htp, rfl, hts, hb3, _⟩ | ⟨hng, ⟨ec, ea, rfl, hec⟩, hb3⟩)
  · have HG : Hid (GoodT X vi S) := Lib.hid ⟨hv0, v, hv, _, htp⟩
    obtain ⟨⟨_, _, _, a3⟩, _⟩ := hts.cells
    have HB3 := Lib.hid (bthen HB2.out hb3 HB2.out.size)
    clear hv0 hv htp hts hb3
    go_wp2_with fail
    go_ret2
    exact ⟨⟨_, _, rfl, fun _ => HG.out⟩, HB3.out⟩
  · have HB3 := Lib.hid (bthen HB2.out hb3 HB2.out.size)
    have HEC := Lib.hid hec
    have hec1 : (ec == 0) = false := by simpa using hec
    clear hng hb3 hec
    go_wp2_with fail
    go_ret2
    exact ⟨⟨_, _, rfl, fun e => absurd e HEC.out⟩, HB3.out⟩
set_option maxRecDepth 100000 in
set_option maxHeartbeats 3200000 in
theorem walk_any {w : World} {X : WPar} {vi : Int} {A : Option Addr} {n c : Nat} {S : List Int} (hP : PInX w X) (hS : RdS w (· < w.heap.size) A n (zs S)) (hn : n ≤ 40) (hc : n ≤ c) (hX : ∀ v ∈ X.V, WOk (X.on v)) (hT : tourE X.N X.E X.V X.D X.un X.us = 0) (hG : GoodT X vi S) :
    Calls Try.prog 7 #[.agg (PrbA X), .agg #[.int .i64 vi, .slice A n c]] w fun e w' => ∃ v p vs A' c', 0 ≤ vi ∧ X.V[vi.toNat]? = some v ∧ tourP (X.on v) S = some (p, vs) ∧ e = .returned (.tuple #[.slice A' vs.length c', .int .i64 0, .int .i64 0]) ∧ RdT w' (· < w'.heap.size) 6 Vis.cs A' vs.length vs ∧ Below w.heap.size w w' := by
  have kp := Blk.new w 28 (PrbA X)
  have kt := Blk.new1 w (.cells (PrbA X) 28) 34 #[.int .i64 vi, .slice A n c]
  have kp1 := kp.alloc (.cells #[.int .i64 vi, .slice A n c] 34)
  have hb1 : Below w.heap.size w ((w.alloc (.cells (PrbA X) 28)).alloc (.cells #[.int .i64 vi, .slice A n c] 34)) := by go_grown
  obtain ⟨w1, hw1⟩ : ∃ w1, (w.alloc (.cells (PrbA X) 28)).alloc (.cells #[.int .i64 vi, .slice A n c] 34) = w1 := ⟨_, rfl⟩
  rw [hw1] at kt kp1 hb1
  have y0 := kp1.cell 0
  have y1 := kp1.cell 1
  have y2 := kp1.cell 2
  have y3 := kp1.cell 3
  have y4 := kp1.cell 4
  have y5 := kp1.cell 5
  simp at y0 y1 y2 y3 y4 y5
  have HP1 := Lib.hid (hP.up hb1)
  have HS1 := Lib.hid (hS.up hb1)
  have HX := Lib.hid hX
  have HT := Lib.hid hT
  have HG := Lib.hid hG
  have HB1 := Lib.hid hb1
  have KP := Lib.hid kp1
  have KT := Lib.hid kt
  clear hP hS hX hT kp kt kp1 hb1 hG
  go_enter Try.func7, Try.ntmps7
  go_wp2_with fail
  refine (tour_check_any HP1.out).mono ?_
  rw [HT.out]
  rintro e w2 ⟨rfl, hb2⟩
  have k2 := KP.out.grow hb2
  have kt2 := KT.out.grow hb2
  clear hw1 y0 y1 y2 y3 y4 y5
  have y0 := k2.cell 0
  have y1 := k2.cell 1
  have y2 := k2.cell 2
  have y3 := k2.cell 3
  have y4 := k2.cell 4
  have y5 := k2.cell 5
  have t0 := kt2.cell 0
  have t1 := kt2.cell 1
  simp at y0 y1 y2 y3 y4 y5 t0 t1
  have HP2 := Lib.hid (HP1.out.up hb2)
  have HS2 := Lib.hid (HS1.out.up hb2)
  have HB2 := Lib.hid (bthen HB1.out hb2 HB1.out.size)
  clear hb2 k2 kt2
  go_wp2_with fail
  refine (follow_any (X := X) (vi := vi) (c := c) HP2.out HS2.out hn hc HX.out).mono ?_
  rintro e w3 (⟨v, p, vs, wb, nm, w4, hv0, hv, htp, rfl, hts, hb3, hb4⟩ | ⟨hng, _, _⟩)
  · obtain ⟨mb, row, f, hs⟩ := hts
    obtain ⟨A', c', rfl, _, hrd⟩ := own_rows (f := Vis.cs) (fun _ => rfl) hs.own
    have a17 := hs.blk.cell 17
    simp at a17
    have HR : Hid (0 ≤ vi ∧ X.V[vi.toNat]? = some v ∧ tourP (X.on v) S = some (p, vs)) := Lib.hid ⟨hv0, hv, htp⟩
    have HRD := Lib.hid (hrd.mono (S' := (· < w3.heap.size)) fun b hb => hb.2)
    have HB3 := Lib.hid (bthen HB2.out hb3 HB2.out.size)
    clear hv0 hv htp hs hb3 hb4 hrd
    go_wp2_with fail
    refine bodyPost_ret (v := .tuple #[.slice A' vs.length c', .int .i64 0, .int .i64 0]) (by simp [results, Try.results7, go_sem]) rfl ⟨v, p, vs, A', c', HR.out.1, HR.out.2.1, HR.out.2.2, rfl, HRD.out, HB3.out⟩
  · exact absurd HG.out hng
end Go.Proofs.Ytmoakdplhfgipaa
