/- TopRoadTours: the tour of exact.Best reaches no stop earlier than the fastest way from the depot allows, and leaves each after it is reached; the fixed example holds. No condition. -/
import Derived.Test.YtmoakdplhfgipaaTopA
import Derived.Test.YtmoakdplhfgipaaNest
import Derived.Test.YtmoakdplhfgipaaOpenV
import Derived.Deep.RegionHeld3
import Derived.Deep.QuietTactic
namespace Go.Proofs.Ytmoakdplhfgipaa.topRoadTours
set_option maxRecDepth 20000
open Go.ChangeShapes Go.WideShapes Go.ChangeAt Go.RowKit Go.Deep
set_option linter.unusedVariables false

def IsProb (W : World) (v : Value) : Prop := ∃ (n un us : Int) (AE : Option Addr) (nE cE : Nat) (E : List Edg) (AV : Option Addr) (nV cV : Nat) (V : List Veh) (AD : Option Addr) (nD cD : Nat) (D : List Dem), v = .agg #[.int .i64 n, .slice AE nE cE, .slice AV nV cV, .slice AD nD cD, .int .i64 un, .int .i64 us] ∧ PIn W AE nE E AV nV V AD nD cD D
section Opn
variable {H : Type} {enc : TypeId × Value → H} {base b0 : Nat} {v : Value} {d : DataW H} {p : List MemPlace} {r : Reach} {W : World}
theorem leaf_edges (h : Leaf enc Try.prog W 0 (fun _ => true) true 22 v) : ∃ A n c L, v = .slice A n c ∧ RdT W (· < W.heap.size) 4 Edg.cs A n L ∧ n ≤ maxLen ∧ n ≤ c ∧ ∀ x ∈ L, True :=
  rows_of_leaf (k := 4) (ls := [3, 3, 3, 3]) Try.underlying22 (by kernel_rfl) (by kernel_rfl) (by decide) Edg.cs (fun _ => True) (fun _ => rfl) (fun us hus hl => by
    match us, hus with
    | [u0, u1, u2, u3], _ =>
      obtain ⟨x0, e0, f0⟩ := hl 0 _ rfl
      obtain ⟨x1, e1, f1⟩ := hl 1 _ rfl
      obtain ⟨x2, e2, f2⟩ := hl 2 _ rfl
      obtain ⟨x3, e3, f3⟩ := hl 3 _ rfl
      simp at e0 e1 e2 e3
      subst e0; subst e1; subst e2; subst e3
      obtain ⟨y0, rfl, g0⟩ := f0.int Try.underlying3
      obtain ⟨y1, rfl, g1⟩ := f1.int Try.underlying3
      obtain ⟨y2, rfl, g2⟩ := f2.int Try.underlying3
      obtain ⟨y3, rfl, g3⟩ := f3.int Try.underlying3
      exact ⟨⟨y0, y1, y2, y3⟩, rfl, trivial⟩) h
theorem leaf_vehs (h : Leaf enc Try.prog W 0 (fun _ => true) true 25 v) : ∃ A n c L, v = .slice A n c ∧ RdT W (· < W.heap.size) 6 Veh.cs A n L ∧ n ≤ maxLen ∧ n ≤ c ∧ ∀ x ∈ L, x.id.size ≤ maxLen :=
  rows_of_leaf (k := 4) (ls := [9, 3, 3, 3, 3, 3]) Try.underlying25 (by kernel_rfl) (by kernel_rfl) (by decide) Veh.cs (fun x => x.id.size ≤ maxLen) (fun _ => rfl) (fun us hus hl => by
    match us, hus with
    | [u0, u1, u2, u3, u4, u5], _ =>
      obtain ⟨x0, e0, f0⟩ := hl 0 _ rfl
      obtain ⟨x1, e1, f1⟩ := hl 1 _ rfl
      obtain ⟨x2, e2, f2⟩ := hl 2 _ rfl
      obtain ⟨x3, e3, f3⟩ := hl 3 _ rfl
      obtain ⟨x4, e4, f4⟩ := hl 4 _ rfl
      obtain ⟨x5, e5, f5⟩ := hl 5 _ rfl
      simp at e0 e1 e2 e3 e4 e5
      subst e0; subst e1; subst e2; subst e3; subst e4; subst e5
      obtain ⟨y0, rfl, g0⟩ := f0.str Try.underlying9
      obtain ⟨y1, rfl, g1⟩ := f1.int Try.underlying3
      obtain ⟨y2, rfl, g2⟩ := f2.int Try.underlying3
      obtain ⟨y3, rfl, g3⟩ := f3.int Try.underlying3
      obtain ⟨y4, rfl, g4⟩ := f4.int Try.underlying3
      obtain ⟨y5, rfl, g5⟩ := f5.int Try.underlying3
      exact ⟨⟨y0, y1, y2, y3, y4, y5⟩, rfl, g0⟩) h
theorem leaf_dems (h : Leaf enc Try.prog W 0 (fun _ => true) true 26 v) : ∃ A n c L, v = .slice A n c ∧ RdT W (· < W.heap.size) 7 Dem.cs A n L ∧ n ≤ maxLen ∧ n ≤ c ∧ ∀ x ∈ L, True :=
  rows_of_leaf (k := 4) (ls := [3, 3, 3, 3, 3, 3, 3]) Try.underlying26 (by kernel_rfl) (by kernel_rfl) (by decide) Dem.cs (fun _ => True) (fun _ => rfl) (fun us hus hl => by
    match us, hus with
    | [u0, u1, u2, u3, u4, u5, u6], _ =>
      obtain ⟨x0, e0, f0⟩ := hl 0 _ rfl
      obtain ⟨x1, e1, f1⟩ := hl 1 _ rfl
      obtain ⟨x2, e2, f2⟩ := hl 2 _ rfl
      obtain ⟨x3, e3, f3⟩ := hl 3 _ rfl
      obtain ⟨x4, e4, f4⟩ := hl 4 _ rfl
      obtain ⟨x5, e5, f5⟩ := hl 5 _ rfl
      obtain ⟨x6, e6, f6⟩ := hl 6 _ rfl
      simp at e0 e1 e2 e3 e4 e5 e6
      subst e0; subst e1; subst e2; subst e3; subst e4; subst e5; subst e6
      obtain ⟨y0, rfl, g0⟩ := f0.int Try.underlying3
      obtain ⟨y1, rfl, g1⟩ := f1.int Try.underlying3
      obtain ⟨y2, rfl, g2⟩ := f2.int Try.underlying3
      obtain ⟨y3, rfl, g3⟩ := f3.int Try.underlying3
      obtain ⟨y4, rfl, g4⟩ := f4.int Try.underlying3
      obtain ⟨y5, rfl, g5⟩ := f5.int Try.underlying3
      obtain ⟨y6, rfl, g6⟩ := f6.int Try.underlying3
      exact ⟨⟨y0, y1, y2, y3, y4, y5, y6⟩, rfl, trivial⟩) h
theorem open_prob (W : World) (hv : Value.okWide Try.prog W r b0 28 v) (h : DataW.Trod enc Try.prog W 0 (fun _ => true) true 28 v d p) : IsProb W v := by
  obtain ⟨cs, rfl, hsz, hl⟩ := open_agg (k := 5) (ls := [3, 22, 25, 26, 3, 3]) Try.underlying28 (by kernel_rfl) (by kernel_rfl) hv h
  obtain ⟨l⟩ := cs
  match l, hsz with
  | [u0, u1, u2, u3, u4, u5], _ =>
    obtain ⟨x0, e0, f0⟩ := hl 0 _ rfl
    obtain ⟨x1, e1, f1⟩ := hl 1 _ rfl
    obtain ⟨x2, e2, f2⟩ := hl 2 _ rfl
    obtain ⟨x3, e3, f3⟩ := hl 3 _ rfl
    obtain ⟨x4, e4, f4⟩ := hl 4 _ rfl
    obtain ⟨x5, e5, f5⟩ := hl 5 _ rfl
    simp at e0 e1 e2 e3 e4 e5
    subst e0; subst e1; subst e2; subst e3; subst e4; subst e5
    obtain ⟨y0, rfl, g0⟩ := f0.int Try.underlying3
    obtain ⟨AE, nE, cE, E, rfl, hE, hnE, _, _⟩ := leaf_edges f1
    obtain ⟨AV, nV, cV, V, rfl, hV, hnV, _, hid⟩ := leaf_vehs f2
    obtain ⟨AD, nD, cD, D, rfl, hD, hnD, hcD, _⟩ := leaf_dems f3
    obtain ⟨y4, rfl, g4⟩ := f4.int Try.underlying3
    obtain ⟨y5, rfl, g5⟩ := f5.int Try.underlying3
    exact ⟨y0, y4, y5, AE, nE, cE, E, AV, nV, cV, V, AD, nD, cD, D, rfl, ⟨hE, hnE, hV, hnV, hid, hD, hnD, hcD⟩⟩
end Opn
set_option maxRecDepth 100000 in
set_option maxHeartbeats 12800000 in
theorem walk (w : World) (v0 : Value) (hv0 : IsProb w v0) (v1 : Value) (hv1 : IsInt .i64 v1) (v2 : Value) (hv2 : IsInts w v2) :
    Calls Try.prog 3 #[v0, v1, v2] w fun e w' => e = .returned (.bool true) ∧ Below w.heap.size w w' := by
  obtain ⟨n, un, us, AE, nE, cE, E, AV, nV, cV, V, AD, nD, cD, D, rfl, hP⟩ := hv0
  obtain ⟨vi, rfl, _⟩ := hv1
  obtain ⟨A, nd, cd, Dm, rfl, hDm, _, hcd, _⟩ := hv2
  have k0 := Blk.new w 28 #[.int .i64 n, .slice AE nE cE, .slice AV nV cV, .slice AD nD cD, .int .i64 un, .int .i64 us]
  have hb0 : Below w.heap.size w (w.alloc (.cells #[.int .i64 n, .slice AE nE cE, .slice AV nV cV, .slice AD nD cD, .int .i64 un, .int .i64 us] 28)) := by go_grown
  obtain ⟨w0, hw0⟩ : ∃ w0, w.alloc (.cells #[.int .i64 n, .slice AE nE cE, .slice AV nV cV, .slice AD nD cD, .int .i64 un, .int .i64 us] 28) = w0 := ⟨_, rfl⟩
  rw [hw0] at k0 hb0
  have y0 := k0.cell 0
  have y1 := k0.cell 1
  have y2 := k0.cell 2
  have y3 := k0.cell 3
  have y4 := k0.cell 4
  have y5 := k0.cell 5
  simp at y0 y1 y2 y3 y4 y5
  have HP := Lib.hid (hP.up hb0)
  have HD := Lib.hid (hDm.up hb0)
  have HB0 := Lib.hid hb0
  have K0 := Lib.hid k0
  clear hP hDm hb0 k0
  go_enter Try.func3, Try.ntmps3
  by_cases g0 : n ≤ 10
  · have g0d : decide (n > 10) = false := by simp; omega
    by_cases g1 : nE ≤ 60
    · have g1d : decide ((nE : Int) > 60) = false := by simp; omega
      by_cases g2 : nD ≤ 6
      · have g2d : decide ((nD : Int) > 6) = false := by simp; omega
        by_cases g3 : nV ≤ 4
        · have g3d : decide ((nV : Int) > 4) = false := by simp; omega
          by_cases g4 : nd ≤ 3
          · have g4d : decide ((nd : Int) > 3) = false := by simp; omega
            obtain ⟨te, hte⟩ : ∃ te, tourE n E V D un us = te := ⟨_, rfl⟩
            have HTE := Lib.hid hte
            clear hte
            go_wp2_with fail
            refine (r22_any HP.out).mono ?_
            rw [HTE.out]
            rintro e w1 ⟨rfl, hb1⟩
            have k1 := K0.out.grow hb1
            have HP1 := Lib.hid (HP.out.up hb1)
            have HD1 := Lib.hid (HD.out.up hb1)
            have HB1 := Lib.hid (bthen HB0.out hb1 HB0.out.size)
            clear hw0 hb1 y0 y1 y2 y3 y4 y5
            have y0 := k1.cell 0
            have y1 := k1.cell 1
            have y2 := k1.cell 2
            have y3 := k1.cell 3
            have y4 := k1.cell 4
            have y5 := k1.cell 5
            simp at y0 y1 y2 y3 y4 y5
            have K1 := Lib.hid k1
            clear k1
            by_cases g5 : te = 0
            · subst g5
              have hroa : RoaOk n E := roa_ok (by
                have := HTE.out
                unfold tourE at this
                split at this
                · omega
                · omega)
              have hlo := hroa.lo
              obtain ⟨N, rfl⟩ : ∃ N : Nat, n = (N : Int) := ⟨n.toNat, by omega⟩
              obtain ⟨X, hX⟩ : ∃ X : WPar, X = ⟨N, AE, nE, cE, E, AV, nV, cV, V, AD, nD, cD, D, un, us, ⟨⟨#[]⟩, 0, 0, 0, 0, 0⟩⟩ := ⟨_, rfl⟩
              have HPX : Hid (PInX w1 X) := Lib.hid (by rw [hX]; exact HP1.out)
              have HTX : Hid (tourE X.N X.E X.V X.D X.un X.us = 0) := Lib.hid (by rw [hX]; exact HTE.out)
              have HWO : Hid (∀ v ∈ X.V, WOk (X.on v)) := Lib.hid (wok_of HPX.out HTX.out (by rw [hX]; show N ≤ 10; omega) (by rw [hX]; exact g1) (by rw [hX]; exact g2))
              have HAX : Hid (#[.int .i64 (N : Int), .slice AE nE cE, .slice AV nV cV, .slice AD nD cD, .int .i64 un, .int .i64 us] = PrbA X) := Lib.hid (by rw [hX])
              have hbest := top_any (vi := vi) (cd := cd) HPX.out HWO.out HTX.out HD1.out g4 hcd
              rw [← HAX.out] at hbest
              have HBE := Lib.hid hbest
              have HXE := Lib.hid hX
              clear hroa hX hbest
              go_wp2_with fail
              refine HBE.out.mono ?_
              rintro e w2 ⟨(⟨A2, n2, c2, m2, S2, rfl, hr2, hn2, hc2, hg2⟩ | ⟨ec, rfl, hec⟩), hb2⟩
              · obtain ⟨m, hm⟩ : ∃ m : Nat, vi = (m : Int) := ⟨vi.toNat, by have := hg2.1; omega⟩
                subst hm
                have HG2 := Lib.hid hg2
                have hbt : Below w2.heap.size w2 (w2.alloc (.cells #[.int .i64 (m : Int), .slice A2 n2 c2] 34)) := by go_grown
                have kt := Blk.new w2 34 #[.int .i64 (m : Int), .slice A2 n2 c2]
                have k3 := (K1.out.grow hb2).grow hbt
                have hb3 := bthen hb2 hbt hb2.size
                obtain ⟨w3, hw3⟩ : ∃ w3, w2.alloc (.cells #[.int .i64 (m : Int), .slice A2 n2 c2] 34) = w3 := ⟨_, rfl⟩
                obtain ⟨tb, htb⟩ : ∃ tb, w2.heap.size = tb := ⟨_, rfl⟩
                have hr3 := hr2.up hbt
                have hsl := hr2.1
                rw [zs_len] at hsl
                rw [hw3] at kt k3 hb3 hr3
                rw [htb] at kt
                have HPX3 : Hid (PInX w3 X) := Lib.hid (HPX.out.up hb3)
                have hwalk := walk_any (vi := (m : Int)) HPX3.out hr3 (by omega) hc2 HWO.out HTX.out hg2
                rw [← HAX.out] at hwalk
                have HWK := Lib.hid hwalk
                have HB13 := Lib.hid hb3
                have HB3 := Lib.hid (bthen HB1.out hb3 HB1.out.size)
                have K3 := Lib.hid k3
                clear y0 y1 y2 y3 y4 y5
                have y0 := k3.cell 0
                have y1 := k3.cell 1
                have y2 := k3.cell 2
                have y3 := k3.cell 3
                have y4 := k3.cell 4
                have y5 := k3.cell 5
                have t0 := kt.cell 0
                have t1 := kt.cell 1
                simp at y0 y1 y2 y3 y4 y5 t0 t1
                clear hbt kt k3 hb3 hr3 hwalk hr2 hg2 hb2
                go_wp2_with fail
                refine HWK.out.mono ?_
                rintro e w4 ⟨v, p, vs, A4, c4, hv0, hv, htp, rfl, hvr, hb4⟩
                rw [Int.toNat_natCast] at hv
                have hvn : vs.length ≤ 7 := by have := tourP_len htp; omega
                have HV := Lib.hid hv
                have HTP := Lib.hid htp
                have HVR := Lib.hid hvr
                have k4 := K3.out.grow hb4
                have HPX4 : Hid (PInX w4 X) := Lib.hid (HPX3.out.up hb4)
                have HB4 := Lib.hid (bthen HB3.out hb4 HB3.out.size)
                have hwv := HWO.out v (List.mem_of_getElem? hv)
                have hXV : X.V = V := by rw [HXE.out]
                have hmn : m < nV := by
                  have h1 := (List.getElem?_eq_some_iff.1 hv).1
                  have h2 := HP1.out.v.1
                  rw [hXV] at h1
                  omega
                rw [hXV] at hv
                obtain ⟨bV, oV, rfl, hbV, _⟩ := HP1.out.v.2 (by omega)
                have hb14 := bthen HB13.out hb4 HB13.out.size
                have hvc := (HP1.out.v.cells_ (k := m) hmn hv hb14).2
                have v1 := hvc 1 _ rfl
                have v2 := hvc 2 _ rfl
                obtain ⟨dp, hdp⟩ : ∃ dp : Nat, v.depot = (dp : Int) := ⟨v.depot.toNat, by have := hwv.d0; have h : (X.on v).v.depot = v.depot := rfl; rw [h] at this; omega⟩
                have hdN : dp < N := by
                  have := hwv.d1
                  rw [HXE.out] at this
                  have h : (dp : Int) < (N : Int) := by rw [← hdp]; exact this
                  omega
                have hnet : Net N E nE := by
                  have := hwv.net
                  rw [HXE.out] at this
                  exact this
                have hf0 : 0 ≤ v.from_ := hwv.f0
                have hf1 : v.from_ ≤ 86400 := hwv.f1
                have HGD : Hid (IsLegs N E (dp : Int) (legsOf N E (dp : Int)) → ∀ x ∈ vs, 0 ≤ x.n ∧ x.n < (N : Int) ∧ 0 ≤ (ato (legsOf N E (dp : Int)) x.n).s ∧ (ato (legsOf N E (dp : Int)) x.n).s ≤ 900000 ∧ v.from_ + (ato (legsOf N E (dp : Int)) x.n).s ≤ x.a ∧ x.a ≤ x.b ∧ x.b ≤ x.e) := Lib.hid (fun hi x hx => by
                  have hi2 : IsLegs (X.on v).N (X.on v).E (X.on v).v.depot (legsOf (X.on v).N (X.on v).E (X.on v).v.depot) := by
                    rw [HXE.out]
                    show IsLegs N E v.depot (legsOf N E v.depot)
                    rw [hdp]
                    exact hi
                  obtain ⟨g1, g2, g3, g4, g5, g6⟩ := tourP_good hwv hi2 HTP.out x hx
                  have hw : wayOf (X.on v) (X.on v).v.depot x.n = ato (legsOf N E (dp : Int)) x.n := by
                    rw [HXE.out]
                    show ato (legsOf N E v.depot) x.n = _
                    rw [hdp]
                  rw [hw] at g3 g4
                  have g2' : x.n < (N : Int) := by rw [HXE.out] at g2; exact g2
                  exact ⟨g1, g2', g3, (hi.bnd _ g1 g2').1, g4, g5, g6⟩)
                have HS : Hid (∀ W, Below w4.heap.size w4 W → (W.cell? ⟨w.heap.size, 0, none⟩ = some (.int .i64 (N : Int)) ∧ W.cell? ⟨w.heap.size, 1, none⟩ = some (.slice AE nE cE) ∧ W.cell? ⟨w.heap.size, 2, none⟩ = some (.slice (some ⟨bV, oV, none⟩) nV cV) ∧ W.cell? ⟨bV, oV + m * 6 + 1, none⟩ = some (.int .i64 (dp : Int)))) := Lib.hid (fun W hW => by
                  have k := k4.grow hW
                  have hvc' := (HP1.out.v.cells_ (k := m) hmn hv (bthen hb14 hW hb14.size)).2
                  exact ⟨k.cell 0, k.cell 1, k.cell 2, by rw [← hdp]; exact hvc' 1 _ rfl⟩)
                have HRD : Hid (∀ W, Below w4.heap.size w4 W → RdT W (· < W.heap.size) 4 Edg.cs AE nE E) := Lib.hid (fun W hW => HP1.out.e.up (bthen hb14 hW hb14.size))
                have HFR : Hid (∀ W, Below w4.heap.size w4 W → W.cell? ⟨bV, oV + m * 6 + 2, none⟩ = some (.int .i64 v.from_)) := Lib.hid (fun W hW => ((HP1.out.v.cells_ (k := m) hmn hv (bthen hb14 hW hb14.size)).2 2 _ rfl))
                have hnm : ¬ nV ≤ m := by omega
                have z2 := k4.cell 2
                simp at z2
                have hd4 : w4.drew.heap.size = w4.heap.size := rfl
                have HBD : Hid (Below w4.heap.size w4 w4.drew) := Lib.hid ((Below.refl _ _).drew)
                clear hw3 htb y0 y1 y2 y3 y4 y5 t0 t1 hv0 hv htp hvr k4 hb4 hwv hvc v1 v2 hb14 hXV
                go_wp2_with fail
                clear z2
                go_region_held3 (fun W => W.cell? ⟨w.heap.size, 0, none⟩ = some (.int .i64 (N : Int)) ∧ W.cell? ⟨w.heap.size, 1, none⟩ = some (.slice AE nE cE) ∧ W.cell? ⟨w.heap.size, 2, none⟩ = some (.slice (some ⟨bV, oV, none⟩) nV cV) ∧ W.cell? ⟨bV, oV + m * 6 + 1, none⟩ = some (.int .i64 (dp : Int)))
                  (first | exact HS.out _ HBD.out | exact HS.out _ HB5.out)
                  (first
                    | (go_at_call 8; refine (legs_any (HRD.out _ HBD.out) hnet hdN).mono ?_; rintro e w5 ⟨b, rfl, hbl, ho5, hi5, hb5⟩; have HB5 := Lib.hid (bthen HBD.out hb5 HBD.out.size); have HO5 := Lib.hid ho5; have HI5 := Lib.hid hi5; clear ho5 hi5 hb5 hbl))
                have HVS := Lib.hid (HGD.out HI5.out)
                have HB5w := Lib.hid (bthen HB4.out HB5.out HB4.out.size)
                have HVR5 := Lib.hid (HVR.out.up HB5.out)
                have hvl := HVR.out.1
                go_wp2_with fail
                go_loopw [98] (fun i wr => ∃ k : Nat, k ≤ vs.length ∧ i = .int .i64 (k : Nat) ∧ Below w5.heap.size w5 wr) (fun i _ => vs.length - (intOf i).toNat)
                case atStart => exact ⟨0, Nat.zero_le _, rfl, Below.refl _ _⟩
                case round =>
                  obtain ⟨k, hk, rfl, hbr⟩ := hrel
                  have HBR := Lib.hid hbr
                  by_cases hlt : k < vs.length
                  · obtain ⟨x, hx⟩ := at_lt (l := vs) (k := k) hlt
                    obtain ⟨g1, g2, g3, g4, g5, g6, g7⟩ := HVS.out x (List.mem_of_getElem? hx)
                    obtain ⟨b6, o6, rfl, hb6, _⟩ := HVR5.out.2 (by omega)
                    have hxc := (HVR5.out.cells_ hlt hx hbr).2
                    have x0 := hxc 0 _ rfl
                    rw [Nat.add_zero] at x0
                    have x1 := hxc 1 _ rfl
                    have x2 := hxc 2 _ rfl
                    have x3 := hxc 3 _ rfl
                    have x4 := hxc 4 _ rfl
                    have x5 := hxc 5 _ rfl
                    obtain ⟨xs, xn, xa, xb, xe, xl⟩ := x
                    simp only at x0 x1 x2 x3 x4 x5 g1 g2 g3 g4 g5 g6 g7
                    obtain ⟨t, rfl⟩ : ∃ t : Nat, xn = (t : Int) := ⟨xn.toNat, by omega⟩
                    obtain ⟨⟨ls, lm⟩, hl⟩ : ∃ l, ato (legsOf N E (dp : Int)) (t : Int) = l := ⟨_, rfl⟩
                    have hat := legs_at HI5.out (to_ := (t : Int)) (by omega) g2
                    rw [Int.toNat_natCast, hl] at hat
                    rw [hl] at g3 g4 g5
                    simp only at g3 g4 g5
                    have htN : t < N := by omega
                    have hbe : Below wr.heap.size wr (wr.alloc (.cells #[.int .i64 xs, .int .i64 (t : Int), .int .i64 xa, .int .i64 xb, .int .i64 xe, .int .i64 xl] 48)) := by go_grown
                    have kx := Blk.new wr 48 #[.int .i64 xs, .int .i64 (t : Int), .int .i64 xa, .int .i64 xb, .int .i64 xe, .int .i64 xl]
                    have hbr6 := bthen hbr hbe hbr.size
                    obtain ⟨w6, hw6⟩ : ∃ w6, wr.alloc (.cells #[.int .i64 xs, .int .i64 (t : Int), .int .i64 xa, .int .i64 xb, .int .i64 xe, .int .i64 xl] 48) = w6 := ⟨_, rfl⟩
                    obtain ⟨xb', hxb⟩ : ∃ xb', wr.heap.size = xb' := ⟨_, rfl⟩
                    rw [hw6] at kx hbr6
                    rw [hxb] at kx
                    have hb46 := bthen HB5.out hbr6 HB5.out.size
                    obtain ⟨q0, q1⟩ := OutB.cell (Blk.grow HO5.out hbr6) hat
                    obtain ⟨_, _, q2, _⟩ := HS.out _ hb46
                    have q3 := HFR.out _ hb46
                    have u1 := kx.cell 1
                    have u2 := kx.cell 2
                    have u3 := kx.cell 3
                    have u4 := kx.cell 4
                    simp at u1 u2 u3 u4 q0 q1
                    have H6 := Lib.hid hbr6
                    have hwr : IntKind.i64.wrap (v.from_ + ls) = v.from_ + ls := IntWalk.i64_in _ (by omega)
                    clear hbr hx hxc hl hat hbe kx hbr6 hb46
                    go_wp2_with fail
                    clear hw6 hxb x0 x1 x2 x3 x4 x5
                    have r1 : ¬ N ≤ t := by omega
                    have r2 : decide (ls < 0) = false := by simp; omega
                    have r3 : decide (xa < v.from_ + ls) = false := by simp; omega
                    have r4 : decide (xb < xa) = false := by simp; omega
                    have r5 : decide (xe < xb) = false := by simp; omega
                    go_quiet (fail)
                    go_wp2_with fail
                    go_roundw
                    case rel =>
                      refine ⟨k + 1, by omega, by go_num, ?_⟩
                      exact belowN H6.out _
                    case measure => simp [intOf]; omega
                  · have e : k = vs.length := by omega
                    subst e
                    go_wp2_with (first
                      | (go_at_call 5; refine (awake24_any _).mono ?_; rintro e w7 ⟨rfl, hb7⟩; have HB7 := Lib.hid (bthen (bthen HB5w.out HBR.out HB5w.out.size) hb7 (bthen HB5w.out HBR.out HB5w.out.size).size); clear hb7)
                      | fail)
                    go_ret
                    exact ⟨rfl, HB7.out⟩
              · have HB2 := Lib.hid (bthen HB1.out hb2 HB1.out.size)
                have hec1 : (ec == 0) = false := by simpa using hec
                have hbt : Below w2.heap.size w2 (w2.alloc (.cells #[.int .i64 0, .slice none 0 0] 34)) := by go_grown
                have HB3 := Lib.hid (bthen HB2.out hbt HB2.out.size)
                clear hb2 hec hbt
                go_wp2_with (first
                  | (go_at_call 5; refine (awake24_any _).mono ?_; rintro e w4 ⟨rfl, hb4⟩; have HB4 := Lib.hid (bthen HB3.out hb4 HB3.out.size); clear hb4)
                  | fail)
                go_ret
                exact ⟨rfl, HB4.out⟩
            · have g5d : (te == 0) = false := by simpa using g5
              clear g5
              go_wp2_with (first
                | (go_at_call 5; refine (awake24_any _).mono ?_; rintro e w2 ⟨rfl, hb2⟩; have HB2 := Lib.hid (bthen HB1.out hb2 HB1.out.size); clear hb2)
                | fail)
              go_ret
              exact ⟨rfl, HB2.out⟩
          · have g4d : decide ((nd : Int) > 3) = true := by simp; omega
            go_wp2_with (first
              | (go_at_call 5; refine (awake24_any _).mono ?_; rintro e w1 ⟨rfl, hb1⟩; have HB1 := Lib.hid (bthen HB0.out hb1 HB0.out.size); clear hb1)
              | fail)
            go_ret
            exact ⟨rfl, HB1.out⟩
        · have g3d : decide ((nV : Int) > 4) = true := by simp; omega
          go_wp2_with (first
            | (go_at_call 5; refine (awake24_any _).mono ?_; rintro e w1 ⟨rfl, hb1⟩; have HB1 := Lib.hid (bthen HB0.out hb1 HB0.out.size); clear hb1)
            | fail)
          go_ret
          exact ⟨rfl, HB1.out⟩
      · have g2d : decide ((nD : Int) > 6) = true := by simp; omega
        go_wp2_with (first
          | (go_at_call 5; refine (awake24_any _).mono ?_; rintro e w1 ⟨rfl, hb1⟩; have HB1 := Lib.hid (bthen HB0.out hb1 HB0.out.size); clear hb1)
          | fail)
        go_ret
        exact ⟨rfl, HB1.out⟩
    · have g1d : decide ((nE : Int) > 60) = true := by simp; omega
      go_wp2_with (first
        | (go_at_call 5; refine (awake24_any _).mono ?_; rintro e w1 ⟨rfl, hb1⟩; have HB1 := Lib.hid (bthen HB0.out hb1 HB0.out.size); clear hb1)
        | fail)
      go_ret
      exact ⟨rfl, HB1.out⟩
  · have g0d : decide (n > 10) = true := by simp; omega
    go_wp2_with (first
      | (go_at_call 5; refine (awake24_any _).mono ?_; rintro e w1 ⟨rfl, hb1⟩; have HB1 := Lib.hid (bthen HB0.out hb1 HB0.out.size); clear hb1)
      | fail)
    go_ret
    exact ⟨rfl, HB1.out⟩
theorem own : ownKnob Try.prog.godebug = none := by kernel_rfl
theorem laidOut : laidOutB Try.prog = true := by kernel_rfl
set_option maxRecDepth 100000 in
theorem lifted (os : Os) (started : os.Started) (H : Type) (enc : TypeId × Value → H) :
    ReturnsInHanded {} Try.checked os 3 .any (Rows.topRoadToursSpec.pre6 enc Try.prog Try.f3 Rows.topRoadToursRow.domain false) (Rows.topRoadToursSpec.post enc Try.prog Try.f3 false true false false) := by
  refine returnsInHanded_of_change (C := Try.checked) own started (by kernel_rfl) Try.func3
    (ChangeSpec.witness6 (enc := enc) (C := Try.checked) false ⟨#[], #[.agg #[.int .i64 0, .slice none 0 0, .slice none 0 0, .slice none 0 0, .int .i64 0, .int .i64 0], .int .i64 0, .slice none 0 0], []⟩ 8 (by kernel_rfl) (by kernel_rfl) (by kernel_rfl) (by kernel_rfl)) ?_
  intro W base args ds gs before hval0 hW hcnd _
  have hval : ∀ (j : Nat) t v, Try.f3.params[j]? = some t → args[j]? = some v → Value.okWide Try.prog W .any base t v := hval0
  have hW' := hW
  obtain ⟨p, q, hA0, hV, rfl, hfz, hnd⟩ := hW
  have hA : DataW.TrodAll enc Try.prog W 0 (fun _ => true) true Try.f3.params.toList args.toList ds p := hA0
  rw [Try.params3] at hA hval
  obtain ⟨v0, vs0, d0, ds0, p0, q0, hargs, rfl, rfl, h0, r0⟩ := trodAll_cons hA
  obtain ⟨v1, vs1, d1, ds1, p1, q1, rfl, rfl, rfl, h1, r1⟩ := trodAll_cons r0
  obtain ⟨v2, vs2, d2, ds2, p2, q2, rfl, rfl, rfl, h2, r2⟩ := trodAll_cons r1
  obtain ⟨rfl, rfl, rfl⟩ := trodAll_nil r2
  obtain rfl : args = #[v0, v1, v2] := by cases args; simp_all
  obtain ⟨rfl, rfl⟩ := trodVars_none hV
  have k0 := h0
  have lt0 : ∀ x ∈ p0, x.block < W.heap.size := by obtain ⟨m, hm⟩ := k0; exact DataW.trod_lt m _ _ _ hm
  have O0 := open_prob W (hval 0 28 v0 rfl rfl) h0
  have k1 := h1
  have lt1 : ∀ x ∈ p1, x.block < W.heap.size := by obtain ⟨m, hm⟩ := k1; exact DataW.trod_lt m _ _ _ hm
  have O1 := open_int W (hval 1 3 v1 rfl rfl) h1
  have k2 := h2
  have lt2 : ∀ x ∈ p2, x.block < W.heap.size := by obtain ⟨m, hm⟩ := k2; exact DataW.trod_lt m _ _ _ hm
  have O2 := open_ints W (hval 2 29 v2 rfl rfl) h2
  clear hA0 hval0
  refine (walk W v0 O0 v1 O1 v2 O2).mono fun e W' ⟨he, bel⟩ => ?_
  subst he
  exact ⟨_, rfl, _, _, _, [], _, [], hW', trodAll_mk1 (shut_bool Try.underlying4 _), (trodAll_cons_mk (Below.trod laidOut (by kernel_rfl) (of_decide_eq_true (by kernel_rfl)) k0 bel lt0) (trodAll_cons_mk (Below.trod laidOut (by kernel_rfl) (of_decide_eq_true (by kernel_rfl)) k1 bel lt1) (trodAll_cons_mk (Below.trod laidOut (by kernel_rfl) (of_decide_eq_true (by kernel_rfl)) k2 bel lt2) trodAll_mk0))), rfl, bel.frame _, fun h => by cases h⟩
theorem over : Rows.topRoadToursRow.holds Try.pinned (OpenSpec.ofChange Rows.topRoadToursSpec) :=
  OpenClaim.holds_of_wide 3 Try.f3 rfl rfl rfl rfl rfl rfl rfl ⟨rfl, rfl, rfl, rfl, rfl⟩ rfl rfl rfl rfl rfl (by kernel_rfl) Try.func3 (by kernel_rfl)
    (of_decide_eq_true (by kernel_rfl)) (by unfold Func.isWrapper; first | (rw [if_pos (by decide +kernel)]; kernel_rfl) | (rw [if_neg (by decide +kernel)]; exact ⟨rfl, rfl⟩))
    (fun os started H enc _ => lifted os started H enc)
theorem proved : Rows.TopRoadToursSaid := over
#print axioms proved

end Go.Proofs.Ytmoakdplhfgipaa.topRoadTours
