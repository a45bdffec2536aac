/- exact.best$1: one candidate looked at. -/
import Derived.Test.YtmoakdplhfgipaaTouI
import Derived.Test.YtmoakdplhfgipaaExaD
namespace Go.Proofs.Ytmoakdplhfgipaa
set_option maxRecDepth 20000
open Go.RowKit Go.Maps

/-- what the search holds: the best tour so far is feasible -/
structure JX (w0 : World) (X : WPar) (vi : Int) (pb vb fb cb ob U T tb : Nat) (W : World) : Prop where
  p : Blk W pb 28 (PrbA X)
  v : Blk W vb 3 #[.int .i64 vi]
  c : ∃ co : Int, Blk W cb 3 #[.int .i64 co]
  f : ∃ fd A n c S, Blk W fb 4 #[.bool fd] ∧ Blk W ob 34 #[.int .i64 vi, .slice A n c] ∧ RdS W (fun b => b < W.heap.size ∧ b ≠ U ∧ b ≠ T ∧ b ≠ tb ∧ fb < b) A n (zs S) ∧ n ≤ 6 ∧ n ≤ c ∧ (fd = true → GoodT X vi S)
  b : Below w0.heap.size w0 W
/-- the order of the search's blocks -/
structure JO (w0 : World) (pb vb fb cb ob U T tb : Nat) : Prop where
  o1 : w0.heap.size ≤ pb
  o2 : pb < vb
  o3 : vb < ob
  o4 : ob < cb
  o5 : cb < fb
  o6 : fb < U
  o7 : U < T
  o8 : T < tb
section
variable {w0 W W' : World} {X : WPar} {vi : Int} {pb vb fb cb ob U T tb : Nat}
theorem JX.keep (h : JX w0 X vi pb vb fb cb ob U T tb W) (ho : JO w0 pb vb fb cb ob U T tb) (hk : Kp (fun b => b = U ∨ b = T ∨ b = tb) W W') : JX w0 X vi pb vb fb cb ob U T tb W' := by
  obtain ⟨o1, o2, o3, o4, o5, o6, o7, o8⟩ := ho
  obtain ⟨hp, hv, ⟨co, hc⟩, ⟨fd, A, n, c, S, hf, hob, hr, hn, hnc, hg⟩, hb⟩ := h
  exact ⟨hk.blk hp (by omega), hk.blk hv (by omega), ⟨co, hk.blk hc (by omega)⟩, ⟨fd, A, n, c, S, hk.blk hf (by omega), hk.blk hob (by omega), (hr.keep (fun b hb => hk.block b hb.1 (by omega))).mono (fun b hb => ⟨Nat.lt_of_lt_of_le hb.1 hk.size, hb.2⟩), hn, hnc, hg⟩, hb.trans (hk.below hb.size (fun b hb => by omega))⟩
end
theorem or3 {a b c : Prop} (h : a ∨ b ∨ c) : a ∨ b ∨ c := h
set_option maxRecDepth 100000 in
set_option maxHeartbeats 6400000 in
theorem best1_any {w0 W : World} {X : WPar} {vi : Int} {pb vb fb cb ob U T tb k cp : Nat} {S : List Int} (h : JX w0 X vi pb vb fb cb ob U T tb W) (ho : JO w0 pb vb fb cb ob U T tb) (hP : PInX w0 X) (hX : ∀ v ∈ X.V, WOk (X.on v)) (hT : tourE X.N X.E X.V X.D X.un X.us = 0) (hS : RdS W (· < W.heap.size) (some ⟨T, 0, none⟩) k (zs S)) (hk : k ≤ 6) (hcp : k ≤ cp) (htb : tb < W.heap.size) :
    Calls Try.prog 24 #[.slice (some ⟨T, 0, none⟩) k cp, .pointer (some ⟨pb, 0, none⟩), .pointer (some ⟨vb, 0, none⟩), .pointer (some ⟨fb, 0, none⟩), .pointer (some ⟨cb, 0, none⟩), .pointer (some ⟨ob, 0, none⟩)] W fun e w' => e = .returned (.tuple #[]) ∧ JX w0 X vi pb vb fb cb ob U T tb w' ∧ Kp (fun b => b = fb ∨ b = cb ∨ b = ob) W w' := by
  have HJ := Lib.hid h
  have HO := Lib.hid ho
  have HX := Lib.hid hX
  have HT := Lib.hid hT
  have HP : Hid (PInX W X) := Lib.hid (hP.up h.b)
  have HS := Lib.hid hS
  have y0 := h.p.cell 0
  have y1 := h.p.cell 1
  have y2 := h.p.cell 2
  have y3 := h.p.cell 3
  have y4 := h.p.cell 4
  have y5 := h.p.cell 5
  have v0 := h.v.cell 0
  simp at y0 y1 y2 y3 y4 y5 v0
  have HC := Lib.hid (cost_any (vi := vi) (c := cp) HP.out HS.out (by omega) hcp HX.out HT.out)
  clear h ho hX hT hS hP
  go_enter Try.func24, Try.ntmps24
  go_wp2_with fail
  refine HC.out.mono ?_
  rintro e w1 ⟨⟨m, ec, rfl, hg⟩, hb1⟩
  have HG := Lib.hid hg
  have HB1 := Lib.hid hb1
  have HJ1 := Lib.hid (HJ.out.keep HO.out (Kp.of hb1))
  have HS1 := Lib.hid (HS.out.up hb1)
  clear hg hb1 y0 y1 y2 y3 y4 y5 v0
  by_cases hec : ec = 0
  · subst hec
    obtain ⟨co, hco⟩ := HJ1.out.c
    obtain ⟨fd, A, n, c, S', hf, hob, hr, hn, hnc, hgd⟩ := HJ1.out.f
    have c0 := hco.cell 0
    have f0 := hf.cell 0
    have o1 := hob.cell 1
    simp at c0 f0 o1
    have HR : Hid (RdS w1 (· < w1.heap.size) A n (zs S')) := Lib.hid (hr.mono (fun b hb => hb.1))
    have HFin : Hid (∀ w3 A' c', Below w1.heap.size w1 w3 → RdS w3 (fun x => w1.heap.size ≤ x ∧ x < w3.heap.size) A' k (zs S) → k ≤ c' → (JX w0 X vi pb vb fb cb ob U T tb (((w3.setCell ⟨ob, 1, none⟩ (.slice A' k c')).setCell ⟨cb, 0, none⟩ (.int .i64 m)).setCell ⟨fb, 0, none⟩ (.bool true)) ∧ Kp (fun b => b = fb ∨ b = cb ∨ b = ob) W (((w3.setCell ⟨ob, 1, none⟩ (.slice A' k c')).setCell ⟨cb, 0, none⟩ (.int .i64 m)).setCell ⟨fb, 0, none⟩ (.bool true)))) := Lib.hid fun w3 A' c' hb3 hr3 hc3 => by
      obtain ⟨q1, q2, q3, q4, q5, q6, q7, q8⟩ := HO.out
      have hj3 := HJ1.out.keep HO.out (Kp.of hb3)
      have hf3 := hf.grow hb3
      have ho3 := hob.grow hb3
      have hc3' := hco.grow hb3
      have hlt : fb < w1.heap.size := hf.lt
      have hts := HS1.out.2
      have hK : Kp (fun b => b = fb ∨ b = cb ∨ b = ob) w3 (((w3.setCell ⟨ob, 1, none⟩ (.slice A' k c')).setCell ⟨cb, 0, none⟩ (.int .i64 m)).setCell ⟨fb, 0, none⟩ (.bool true)) :=
        Kp.set (S := fun b => b = fb ∨ b = cb ∨ b = ob) (Kp.set (S := fun b => b = fb ∨ b = cb ∨ b = ob) (Kp.set (S := fun b => b = fb ∨ b = cb ∨ b = ob) (Kp.refl _ _) (p := ⟨ob, 1, none⟩) (.inr (.inr rfl)) _) (p := ⟨cb, 0, none⟩) (.inr (.inl rfl)) _) (p := ⟨fb, 0, none⟩) (.inl rfl) _
      refine ⟨⟨hK.blk hj3.p (by omega), hK.blk hj3.v (by omega), ⟨m, ?_⟩, ⟨true, A', k, c', S, ?_, ?_, ?_, hk, hc3, fun _ => HG.out rfl⟩, hj3.b.trans (hK.below hj3.b.size (fun b hb => by omega))⟩, ((Kp.of HB1.out).then hb3).trans hK⟩
      · exact ((hc3'.far (p := ⟨ob, 1, none⟩) (by show cb ≠ ob; omega) _).set_ 0 (.int .i64 m)).far (p := ⟨fb, 0, none⟩) (by show cb ≠ fb; omega) _
      · exact ((hf3.far (p := ⟨ob, 1, none⟩) (by show fb ≠ ob; omega) _).far (p := ⟨cb, 0, none⟩) (by show fb ≠ cb; omega) _).set_ 0 (.bool true)
      · exact ((ho3.set_ 1 (.slice A' k c')).far (p := ⟨cb, 0, none⟩) (by show ob ≠ cb; omega) _).far (p := ⟨fb, 0, none⟩) (by show ob ≠ fb; omega) _
      · have hw1 : W.heap.size ≤ w1.heap.size := HB1.out.size
        refine (hr3.keep (fun b hb => ?_)).mono (fun b hb => ⟨by have := hK.size; omega, by omega, by omega, by omega, by omega⟩)
        exact hK.block b hb.2 (by omega)
    have HCO := Lib.hid hco
    have HF := Lib.hid hf
    have HOB := Lib.hid hob
    obtain ⟨q1, q2, q3, q4, q5, q6, q7, q8⟩ := HO.out
    have n1 : ob ≠ cb := by omega
    have n2 : ob ≠ fb := by omega
    have n3 : cb ≠ fb := by omega
    have n4 : cb ≠ ob := by omega
    have n5 : fb ≠ ob := by omega
    have n6 : fb ≠ cb := by omega
    clear hco hf hob hr hgd q1 q2 q3 q4 q5 q6 q7 q8
    have HLT : Hid (n ≤ 6) := Lib.hid hn
    have HKW : Hid (Kp (fun b => b = fb ∨ b = cb ∨ b = ob) W w1) := Lib.hid (Kp.of HB1.out)
    cases fd with
    | false =>
      go_wp2_with fail
      refine (clone_int HS1.out (by omega)).mono ?_
      rintro e w3 ⟨A', c', rfl, hc3, hr3, hb3⟩
      obtain ⟨hj4, hk4⟩ := HFin.out w3 A' c' hb3 hr3 hc3
      have HJ4 := Lib.hid hj4
      have HK4 := Lib.hid hk4
      have kf := HF.out.grow hb3
      have kc := HCO.out.grow hb3
      have ko := HOB.out.grow hb3
      have x0 := kf.cell 0
      have x1 := kc.cell 0
      have x2 := ko.cell 1
      have z0 := kf.frozen 0
      have z1 := kc.frozen 0
      have z2 := ko.frozen 1
      simp at x0 x1 x2
      clear hj4 hk4 hr3 hb3 c0 f0 o1 kf kc ko
      go_wp2_with fail
      refine bodyPost_end (results_none rfl _ _ _) rfl ⟨rfl, HJ4.out, HK4.out⟩
    | true =>
      by_cases g1 : m < co
      · go_wp2_with fail
        refine (clone_int HS1.out (by omega)).mono ?_
        rintro e w3 ⟨A', c', rfl, hc3, hr3, hb3⟩
        obtain ⟨hj4, hk4⟩ := HFin.out w3 A' c' hb3 hr3 hc3
        have HJ4 := Lib.hid hj4
        have HK4 := Lib.hid hk4
        have kf := HF.out.grow hb3
        have kc := HCO.out.grow hb3
        have ko := HOB.out.grow hb3
        have x0 := kf.cell 0
        have x1 := kc.cell 0
        have x2 := ko.cell 1
        have z0 := kf.frozen 0
        have z1 := kc.frozen 0
        have z2 := ko.frozen 1
        simp at x0 x1 x2
        clear hj4 hk4 hr3 hb3 c0 f0 o1 kf kc ko
        go_wp2_with fail
        refine bodyPost_end (results_none rfl _ _ _) rfl ⟨rfl, HJ4.out, HK4.out⟩
      · have g1d : decide (m < co) = false := by simp; omega
        by_cases g2 : m = co
        · subst g2
          go_wp2_with (first
            | (go_at_call 26; refine (compare_int HS1.out HR.out (by omega) (by omega)).mono ?_; rintro e w2 ⟨⟨r, rfl⟩, rfl⟩)
            | fail)
          · refine (clone_int HS1.out (by omega)).mono ?_
            rintro e w3 ⟨A', c', rfl, hc3, hr3, hb3⟩
            obtain ⟨hj4, hk4⟩ := HFin.out w3 A' c' hb3 hr3 hc3
            have HJ4 := Lib.hid hj4
            have HK4 := Lib.hid hk4
            have kf := HF.out.grow hb3
            have kc := HCO.out.grow hb3
            have ko := HOB.out.grow hb3
            have x0 := kf.cell 0
            have x1 := kc.cell 0
            have x2 := ko.cell 1
            have z0 := kf.frozen 0
            have z1 := kc.frozen 0
            have z2 := ko.frozen 1
            simp at x0 x1 x2
            clear hj4 hk4 hr3 hb3 c0 f0 o1 kf kc ko
            go_wp2_with fail
            refine bodyPost_end (results_none rfl _ _ _) rfl ⟨rfl, HJ4.out, HK4.out⟩
          · refine bodyPost_end (results_none rfl _ _ _) rfl ⟨rfl, HJ1.out, HKW.out⟩
        · have g2d : (m == co) = false := by simpa using g2
          go_wp2_with fail
          refine bodyPost_end (results_none rfl _ _ _) rfl ⟨rfl, HJ1.out, HKW.out⟩
  · have hec1 : (ec == 0) = false := by simpa using hec
    have HR : Hid (Kp (fun b => b = fb ∨ b = cb ∨ b = ob) W w1) := Lib.hid (Kp.of HB1.out)
    clear hec
    go_wp2_with fail
    refine bodyPost_ret (results_none rfl _ _ _) rfl ⟨rfl, HJ1.out, HR.out⟩
end Go.Proofs.Ytmoakdplhfgipaa
