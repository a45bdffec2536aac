/- Contract of road.Legs. -/
import Derived.Test.YtmoakdplhfgipaaSprB
namespace Go.Proofs.Ytmoakdplhfgipaa
set_option maxRecDepth 20000
open Go.RowKit Go.Maps

/-- the legs of a node -/
noncomputable def legsOf (N : Nat) (E : List Edg) (a : Int) : List Lg := @Classical.epsilon _ ⟨[]⟩ (IsLegs N E a)
theorem legsOf_eq {N : Nat} {E : List Edg} {a : Int} {out : List Lg} (h : IsLegs N E a out) : legsOf N E a = out := (Classical.epsilon_spec (p := IsLegs N E a) ⟨out, h⟩).uniq h
/-- a small network -/
structure Net (N : Nat) (E : List Edg) (nE : Nat) : Prop where
  ok : roaE (N : Int) E = 0
  n : N ≤ 10
  e : nE ≤ 60
theorem Net.edges {N : Nat} {E : List Edg} {nE : Nat} (h : Net N E nE) : EdgesOk N E := (roa_ok h.ok).edge
theorem legs_any {w : World} {A : Option Addr} {N nE cE : Nat} {E : List Edg} {a : Nat} (h : RdT w (· < w.heap.size) 4 Edg.cs A nE E) (hn : Net N E nE) (ha : a < N) :
    Calls Try.prog 8 #[.agg #[.int .i64 (N : Int), .slice A nE cE], .int .i64 (a : Int)] w fun e w' => ∃ b, e = .returned (.tuple #[.slice (some ⟨b, 0, none⟩) N N, .int .i64 0]) ∧ w.heap.size ≤ b ∧ OutB w' b (legsOf N E (a : Int)) ∧ IsLegs N E (a : Int) (legsOf N E (a : Int)) ∧ Below w.heap.size w w' := by
  have k0 := Blk.new w 24 #[.int .i64 (N : Int), .slice A nE cE]
  have hb0 : Below w.heap.size w (w.alloc (.cells #[.int .i64 (N : Int), .slice A nE cE] 24)) := by go_grown
  obtain ⟨w0, hw0⟩ : ∃ w0, w.alloc (.cells #[.int .i64 (N : Int), .slice A nE cE] 24) = w0 := ⟨_, rfl⟩
  rw [hw0] at k0 hb0
  have q0 := k0.cell 0
  have q1 := k0.cell 1
  simp at q0 q1
  have HB0 := Lib.hid hb0
  have HM := Lib.hid (h.up hb0)
  have HN := Lib.hid hn
  have HA := Lib.hid ha
  have K0 := Lib.hid k0
  have hz : w.heap.size < w0.heap.size := k0.lt
  clear h hn hb0 k0
  go_enter Try.func8, Try.ntmps8
  go_wp2_with fail
  clear hw0
  have hne : HN.out.e = HN.out.e := rfl
  refine (road_check_val HN.out.ok HM.out (Nat.le_trans HN.out.e (by unfold maxLen; omega))).mono ?_
  rintro e w1 ⟨rfl, hb1⟩
  have k1 := K0.out.grow hb1
  have d0 := k1.cell 0
  have d1 := k1.cell 1
  simp at d0 d1
  have HM1 := Lib.hid (HM.out.up hb1)
  have HB1 := Lib.hid (bthen HB0.out hb1 HB0.out.size)
  clear k1 hb1 hne q0 q1
  go_wp2_with fail
  refine (spread_any HM1.out HN.out.edges HN.out.n HN.out.e HA.out).mono ?_
  rintro e w2 ⟨b, out, rfl, hbl, ho, hi, hb2⟩
  have he := legsOf_eq hi
  subst he
  have HR : Hid (w.heap.size ≤ b ∧ OutB w2 b (legsOf N E (a : Int)) ∧ IsLegs N E (a : Int) (legsOf N E (a : Int)) ∧ Below w.heap.size w w2) := Lib.hid ⟨Nat.le_trans HB1.out.size hbl, ho, hi, bthen HB1.out hb2 HB1.out.size⟩
  clear ho hi hb2 hbl d0 d1
  go_wp2_with fail
  go_ret2
  exact ⟨b, rfl, HR.out⟩
end Go.Proofs.Ytmoakdplhfgipaa
