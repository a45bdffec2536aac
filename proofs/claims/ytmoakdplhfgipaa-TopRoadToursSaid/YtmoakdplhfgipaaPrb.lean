/- Problems: what tour.Check computes in plain Lean, and the contracts of tour.Check and of the reference's Check. -/
import Derived.Test.YtmoakdplhfgipaaRoaK
namespace Go.Proofs.Ytmoakdplhfgipaa
set_option maxRecDepth 20000
open Go.RowKit Go.Maps

/-- a problem that lies in a world's memory -/
structure PIn (w : World) (AE : Option Addr) (nE : Nat) (E : List Edg) (AV : Option Addr) (nV : Nat) (V : List Veh) (AD : Option Addr) (nD cD : Nat) (D : List Dem) : Prop where
  e : RdT w (· < w.heap.size) 4 Edg.cs AE nE E
  en : nE ≤ maxLen
  v : RdT w (· < w.heap.size) 6 Veh.cs AV nV V
  vn : nV ≤ maxLen
  vs : ∀ x ∈ V, x.id.size ≤ maxLen
  d : RdT w (· < w.heap.size) 7 Dem.cs AD nD D
  dn : nD ≤ maxLen
  dc : nD ≤ cD
theorem PIn.up {w w' : World} {AE : Option Addr} {nE : Nat} {E : List Edg} {AV : Option Addr} {nV : Nat} {V : List Veh} {AD : Option Addr} {nD cD : Nat} {D : List Dem} (h : PIn w AE nE E AV nV V AD nD cD D) (hb : Below w.heap.size w w') : PIn w' AE nE E AV nV V AD nD cD D :=
  ⟨h.e.up hb, h.en, h.v.up hb, h.vn, h.vs, h.d.up hb, h.dn, h.dc⟩
def tourE (n : Int) (E : List Edg) (V : List Veh) (D : List Dem) (un us : Int) : Int :=
  if roaE n E ≠ 0 then roaE n E else if chkV V n 16 ≠ 0 then chkV V n 16 else if demsE D n 16 ≠ 0 then demsE D n 16 else if un < 0 ∨ n ≤ un then 7 else if us < 0 ∨ 7200 < us then 1 else 0
theorem r19_val {r : Int} {w : World} {A : Option Addr} {nE cE : Nat} {n : Int} {E : List Edg} (e : roaE n E = r) (h : RdT w (· < w.heap.size) 4 Edg.cs A nE E) (hn : nE ≤ maxLen) :
    Calls Try.prog 9 #[.agg #[.int .i64 n, .slice A nE cE]] w fun e w' => e = .returned (.int .i64 r) ∧ Below w.heap.size w w' := by rw [← e]; exact r19_any h hn
theorem road_check_val {r : Int} {w : World} {A : Option Addr} {nE cE : Nat} {n : Int} {E : List Edg} (e : roaE n E = r) (h : RdT w (· < w.heap.size) 4 Edg.cs A nE E) (hn : nE ≤ maxLen) :
    Calls Try.prog 16 #[.agg #[.int .i64 n, .slice A nE cE]] w fun e w' => e = .returned (.int .i64 r) ∧ Below w.heap.size w w' := by rw [← e]; exact road_check_any h hn
theorem check_val {r : Int} {w : World} {A : Option Addr} {n c : Nat} {L : List Veh} {m q : Int} (e : chkV L m q = r) (h : RdT w (· < w.heap.size) 6 Veh.cs A n L) (hn : n ≤ maxLen) (hsz : ∀ x ∈ L, x.id.size ≤ maxLen) :
    Calls Try.prog 28 #[.slice A n c, .int .i64 m, .int .i64 q] w fun e w' => e = .returned (.int .i64 r) ∧ Below w.heap.size w w' := by rw [← e]; exact check_any h hn hsz m q
theorem rcheck_val {r : Int} {w : World} {A : Option Addr} {n c : Nat} {L : List Veh} {m q : Int} (e : chkV L m q = r) (h : RdT w (· < w.heap.size) 6 Veh.cs A n L) (hn : n ≤ maxLen) (hsz : ∀ x ∈ L, x.id.size ≤ maxLen) :
    Calls Try.prog 10 #[.slice A n c, .int .i64 m, .int .i64 q] w fun e w' => e = .returned (.int .i64 r) ∧ Below w.heap.size w w' := by rw [← e]; exact rcheck_any h hn hsz m q
theorem dchk_val {r : Int} {w : World} {A : Option Addr} {nL cL : Nat} {L : List Dem} {n m : Int} (e : demsE L n m = r) (h : RdT w (· < w.heap.size) 7 Dem.cs A nL L) (hn : nL ≤ maxLen) (hcap : nL ≤ cL) :
    Calls Try.prog 29 #[.slice A nL cL, .int .i64 n, .int .i64 m] w fun e w' => e = .returned (.int .i64 r) ∧ Below w.heap.size w w' := by rw [← e]; exact dchk_any h hn hcap n m
theorem rdchk_val {r : Int} {w : World} {A : Option Addr} {nL cL : Nat} {L : List Dem} {n m : Int} (e : demsE L n m = r) (h : RdT w (· < w.heap.size) 7 Dem.cs A nL L) (hn : nL ≤ maxLen) :
    Calls Try.prog 11 #[.slice A nL cL, .int .i64 n, .int .i64 m] w fun e w' => e = .returned (.int .i64 r) ∧ Below w.heap.size w w' := by rw [← e]; exact rdchk_any h hn n m

set_option maxRecDepth 100000 in
set_option maxHeartbeats 1600000 in
theorem tour_check_any {w : World} {AE : Option Addr} {nE cE : Nat} {E : List Edg} {AV : Option Addr} {nV cV : Nat} {V : List Veh} {AD : Option Addr} {nD cD : Nat} {D : List Dem} {n un us : Int} (h : PIn w AE nE E AV nV V AD nD cD D) :
    Calls Try.prog 14 #[.agg #[.int .i64 n, .slice AE nE cE, .slice AV nV cV, .slice AD nD cD, .int .i64 un, .int .i64 us]] w fun e w' => e = .returned (.int .i64 (tourE n E V D un us)) ∧ Below w.heap.size w w' := by
  obtain ⟨w0, hw0⟩ : ∃ w0, w.alloc (.cells #[.int .i64 n, .slice AE nE cE, .slice AV nV cV, .slice AD nD cD, .int .i64 un, .int .i64 us] 28) = w0 := ⟨_, rfl⟩
  have k0 : Blk w0 w.heap.size 28 #[.int .i64 n, .slice AE nE cE, .slice AV nV cV, .slice AD nD cD, .int .i64 un, .int .i64 us] := by rw [← hw0]; exact Blk.new _ _ _
  have hb0 : Below w.heap.size w w0 := by rw [← hw0]; go_grown
  have PI := h.up hb0
  obtain ⟨r1, e1⟩ : ∃ r, roaE n E = r := ⟨_, rfl⟩
  obtain ⟨r2, e2⟩ : ∃ r, chkV V n 16 = r := ⟨_, rfl⟩
  obtain ⟨r3, e3⟩ : ∃ r, demsE D n 16 = r := ⟨_, rfl⟩
  have hT : tourE n E V D un us = if r1 ≠ 0 then r1 else if r2 ≠ 0 then r2 else if r3 ≠ 0 then r3 else if un < 0 ∨ n ≤ un then 7 else if us < 0 ∨ 7200 < us then 1 else 0 := by unfold tourE; rw [e1, e2, e3]
  rw [hT]
  have HP := Lib.hid PI
  have HB := Lib.hid hb0
  have E1 := Lib.hid e1
  have E2 := Lib.hid e2
  have E3 := Lib.hid e3
  have c0 := k0.cell 0
  have c1 := k0.cell 1
  have c2 := k0.cell 2
  have c3 := k0.cell 3
  have c4 := k0.cell 4
  have c5 := k0.cell 5
  simp at c0 c1 c2 c3 c4 c5
  have HK := Lib.hid k0
  clear h hb0 PI e1 e2 e3 hT k0
  have hz : w.heap.size < w0.heap.size := HK.out.lt
  go_enter Try.func14, Try.ntmps14
  go_wp2_with fail
  clear hw0
  by_cases h1 : r1 = 0
  · subst h1
    by_cases h2 : r2 = 0
    · subst h2
      by_cases h3 : r3 = 0
      · subst h3
        go_wp2_with (first
          | (go_at_call 16; have PI := HP.out; (with_reducible refine (road_check_val E1.out PI.e PI.en).mono ?_); rintro e w1 ⟨rfl, hb1⟩; have HB1 := Lib.hid hb1; have HP1 := Lib.hid (HP.out.up hb1); have k1 := HK.out.grow hb1; have HK1 := Lib.hid k1; have d0 := k1.cell 0; have d1 := k1.cell 1; have d2 := k1.cell 2; have d3 := k1.cell 3; have d4 := k1.cell 4; have d5 := k1.cell 5; simp at d0 d1 d2 d3 d4 d5; clear hb1 k1 PI)
          | (go_at_call 28; have PI := HP1.out; (with_reducible refine (check_val E2.out PI.v PI.vn PI.vs).mono ?_); rintro e w2 ⟨rfl, hb2⟩; have HB2 := Lib.hid hb2; have HP2 := Lib.hid (HP1.out.up hb2); have k2 := HK1.out.grow hb2; have HK2 := Lib.hid k2; have x0 := k2.cell 0; have x1 := k2.cell 1; have x2 := k2.cell 2; have x3 := k2.cell 3; have x4 := k2.cell 4; have x5 := k2.cell 5; simp at x0 x1 x2 x3 x4 x5; clear hb2 k2 PI)
          | (go_at_call 29; have PI := HP2.out; (with_reducible refine (dchk_val E3.out PI.d PI.dn PI.dc).mono ?_); rintro e w3 ⟨rfl, hb3⟩; have HB3 := Lib.hid hb3; have k3 := HK2.out.grow hb3; have y0 := k3.cell 0; have y1 := k3.cell 1; have y2 := k3.cell 2; have y3 := k3.cell 3; have y4 := k3.cell 4; have y5 := k3.cell 5; simp at y0 y1 y2 y3 y4 y5; clear hb3 k3 PI))
        all_goals
          go_ret
          refine ⟨ret_int ?_, bthen (bthen (bthen HB.out HB1.out HB.out.size) HB2.out (bthen HB.out HB1.out HB.out.size).size) HB3.out (bthen (bthen HB.out HB1.out HB.out.size) HB2.out (bthen HB.out HB1.out HB.out.size).size).size⟩
          simp only [ne_eq, not_true, if_false]
          repeat (first | rw [if_pos (by omega)] | rw [if_neg (by omega)])
      · have h3' : (r3 != 0) = true := by simpa using h3
        have H3 := Lib.hid h3
        clear h3
        go_wp2_with (first
          | (go_at_call 16; have PI := HP.out; (with_reducible refine (road_check_val E1.out PI.e PI.en).mono ?_); rintro e w1 ⟨rfl, hb1⟩; have HB1 := Lib.hid hb1; have HP1 := Lib.hid (HP.out.up hb1); have k1 := HK.out.grow hb1; have HK1 := Lib.hid k1; have d0 := k1.cell 0; have d1 := k1.cell 1; have d2 := k1.cell 2; have d3 := k1.cell 3; have d4 := k1.cell 4; have d5 := k1.cell 5; simp at d0 d1 d2 d3 d4 d5; clear hb1 k1 PI)
          | (go_at_call 28; have PI := HP1.out; (with_reducible refine (check_val E2.out PI.v PI.vn PI.vs).mono ?_); rintro e w2 ⟨rfl, hb2⟩; have HB2 := Lib.hid hb2; have HP2 := Lib.hid (HP1.out.up hb2); have k2 := HK1.out.grow hb2; have HK2 := Lib.hid k2; have x0 := k2.cell 0; have x1 := k2.cell 1; have x2 := k2.cell 2; have x3 := k2.cell 3; have x4 := k2.cell 4; have x5 := k2.cell 5; simp at x0 x1 x2 x3 x4 x5; clear hb2 k2 PI)
          | (go_at_call 29; have PI := HP2.out; (with_reducible refine (dchk_val E3.out PI.d PI.dn PI.dc).mono ?_); rintro e w3 ⟨rfl, hb3⟩; have HB3 := Lib.hid hb3; clear hb3 PI))
        go_ret
        exact ⟨ret_int (by simp [H3.out]), bthen (bthen (bthen HB.out HB1.out HB.out.size) HB2.out (bthen HB.out HB1.out HB.out.size).size) HB3.out (bthen (bthen HB.out HB1.out HB.out.size) HB2.out (bthen HB.out HB1.out HB.out.size).size).size⟩
    · have h2' : (r2 != 0) = true := by simpa using h2
      have H2 := Lib.hid h2
      clear h2
      go_wp2_with (first
        | (go_at_call 16; have PI := HP.out; (with_reducible refine (road_check_val E1.out PI.e PI.en).mono ?_); rintro e w1 ⟨rfl, hb1⟩; have HB1 := Lib.hid hb1; have HP1 := Lib.hid (HP.out.up hb1); have k1 := HK.out.grow hb1; have HK1 := Lib.hid k1; have d0 := k1.cell 0; have d1 := k1.cell 1; have d2 := k1.cell 2; have d3 := k1.cell 3; have d4 := k1.cell 4; have d5 := k1.cell 5; simp at d0 d1 d2 d3 d4 d5; clear hb1 k1 PI)
        | (go_at_call 28; have PI := HP1.out; (with_reducible refine (check_val E2.out PI.v PI.vn PI.vs).mono ?_); rintro e w2 ⟨rfl, hb2⟩; have HB2 := Lib.hid hb2; clear hb2 PI))
      go_ret
      exact ⟨ret_int (by simp [H2.out]), bthen (bthen HB.out HB1.out HB.out.size) HB2.out (bthen HB.out HB1.out HB.out.size).size⟩
  · have h1' : (r1 != 0) = true := by simpa using h1
    have H1 := Lib.hid h1
    clear h1
    go_wp2_with (go_at_call 16; have PI := HP.out; (with_reducible refine (road_check_val E1.out PI.e PI.en).mono ?_); rintro e w1 ⟨rfl, hb1⟩; have HB1 := Lib.hid hb1; clear hb1 PI)
    go_ret
    exact ⟨ret_int (by simp [H1.out]), bthen HB.out HB1.out HB.out.size⟩

set_option maxRecDepth 100000 in
set_option maxHeartbeats 1600000 in
theorem r22_any {w : World} {AE : Option Addr} {nE cE : Nat} {E : List Edg} {AV : Option Addr} {nV cV : Nat} {V : List Veh} {AD : Option Addr} {nD cD : Nat} {D : List Dem} {n un us : Int} (h : PIn w AE nE E AV nV V AD nD cD D) :
    Calls Try.prog 4 #[.agg #[.int .i64 n, .slice AE nE cE, .slice AV nV cV, .slice AD nD cD, .int .i64 un, .int .i64 us]] w fun e w' => e = .returned (.int .i64 (tourE n E V D un us)) ∧ Below w.heap.size w w' := by
  obtain ⟨w0, hw0⟩ : ∃ w0, w.alloc (.cells #[.int .i64 n, .slice AE nE cE, .slice AV nV cV, .slice AD nD cD, .int .i64 un, .int .i64 us] 28) = w0 := ⟨_, rfl⟩
  have k0 : Blk w0 w.heap.size 28 #[.int .i64 n, .slice AE nE cE, .slice AV nV cV, .slice AD nD cD, .int .i64 un, .int .i64 us] := by rw [← hw0]; exact Blk.new _ _ _
  have hb0 : Below w.heap.size w w0 := by rw [← hw0]; go_grown
  have PI := h.up hb0
  obtain ⟨r1, e1⟩ : ∃ r, roaE n E = r := ⟨_, rfl⟩
  obtain ⟨r2, e2⟩ : ∃ r, chkV V n 16 = r := ⟨_, rfl⟩
  obtain ⟨r3, e3⟩ : ∃ r, demsE D n 16 = r := ⟨_, rfl⟩
  have hT : tourE n E V D un us = if r1 ≠ 0 then r1 else if r2 ≠ 0 then r2 else if r3 ≠ 0 then r3 else if un < 0 ∨ n ≤ un then 7 else if us < 0 ∨ 7200 < us then 1 else 0 := by unfold tourE; rw [e1, e2, e3]
  rw [hT]
  have HP := Lib.hid PI
  have HB := Lib.hid hb0
  have E1 := Lib.hid e1
  have E2 := Lib.hid e2
  have E3 := Lib.hid e3
  have c0 := k0.cell 0
  have c1 := k0.cell 1
  have c2 := k0.cell 2
  have c3 := k0.cell 3
  have c4 := k0.cell 4
  have c5 := k0.cell 5
  simp at c0 c1 c2 c3 c4 c5
  have HK := Lib.hid k0
  clear h hb0 PI e1 e2 e3 hT k0
  have hz : w.heap.size < w0.heap.size := HK.out.lt
  go_enter Try.func4, Try.ntmps4
  go_wp2_with fail
  clear hw0
  by_cases h1 : r1 = 0
  · subst h1
    by_cases h2 : r2 = 0
    · subst h2
      by_cases h3 : r3 = 0
      · subst h3
        go_wp2_with (first
          | (go_at_call 9; have PI := HP.out; (with_reducible refine (r19_val E1.out PI.e PI.en).mono ?_); rintro e w1 ⟨rfl, hb1⟩; have HB1 := Lib.hid hb1; have HP1 := Lib.hid (HP.out.up hb1); have k1 := HK.out.grow hb1; have HK1 := Lib.hid k1; have d0 := k1.cell 0; have d1 := k1.cell 1; have d2 := k1.cell 2; have d3 := k1.cell 3; have d4 := k1.cell 4; have d5 := k1.cell 5; simp at d0 d1 d2 d3 d4 d5; clear hb1 k1 PI)
          | (go_at_call 10; have PI := HP1.out; (with_reducible refine (rcheck_val E2.out PI.v PI.vn PI.vs).mono ?_); rintro e w2 ⟨rfl, hb2⟩; have HB2 := Lib.hid hb2; have HP2 := Lib.hid (HP1.out.up hb2); have k2 := HK1.out.grow hb2; have HK2 := Lib.hid k2; have x0 := k2.cell 0; have x1 := k2.cell 1; have x2 := k2.cell 2; have x3 := k2.cell 3; have x4 := k2.cell 4; have x5 := k2.cell 5; simp at x0 x1 x2 x3 x4 x5; clear hb2 k2 PI)
          | (go_at_call 11; have PI := HP2.out; (with_reducible refine (rdchk_val E3.out PI.d PI.dn).mono ?_); rintro e w3 ⟨rfl, hb3⟩; have HB3 := Lib.hid hb3; have k3 := HK2.out.grow hb3; have y0 := k3.cell 0; have y1 := k3.cell 1; have y2 := k3.cell 2; have y3 := k3.cell 3; have y4 := k3.cell 4; have y5 := k3.cell 5; simp at y0 y1 y2 y3 y4 y5; clear hb3 k3 PI))
        all_goals
          go_ret
          refine ⟨ret_int ?_, bthen (bthen (bthen HB.out HB1.out HB.out.size) HB2.out (bthen HB.out HB1.out HB.out.size).size) HB3.out (bthen (bthen HB.out HB1.out HB.out.size) HB2.out (bthen HB.out HB1.out HB.out.size).size).size⟩
          simp only [ne_eq, not_true, if_false]
          repeat (first | rw [if_pos (by omega)] | rw [if_neg (by omega)])
      · have h3' : (r3 != 0) = true := by simpa using h3
        have H3 := Lib.hid h3
        clear h3
        go_wp2_with (first
          | (go_at_call 9; have PI := HP.out; (with_reducible refine (r19_val E1.out PI.e PI.en).mono ?_); rintro e w1 ⟨rfl, hb1⟩; have HB1 := Lib.hid hb1; have HP1 := Lib.hid (HP.out.up hb1); have k1 := HK.out.grow hb1; have HK1 := Lib.hid k1; have d0 := k1.cell 0; have d1 := k1.cell 1; have d2 := k1.cell 2; have d3 := k1.cell 3; have d4 := k1.cell 4; have d5 := k1.cell 5; simp at d0 d1 d2 d3 d4 d5; clear hb1 k1 PI)
          | (go_at_call 10; have PI := HP1.out; (with_reducible refine (rcheck_val E2.out PI.v PI.vn PI.vs).mono ?_); rintro e w2 ⟨rfl, hb2⟩; have HB2 := Lib.hid hb2; have HP2 := Lib.hid (HP1.out.up hb2); have k2 := HK1.out.grow hb2; have HK2 := Lib.hid k2; have x0 := k2.cell 0; have x1 := k2.cell 1; have x2 := k2.cell 2; have x3 := k2.cell 3; have x4 := k2.cell 4; have x5 := k2.cell 5; simp at x0 x1 x2 x3 x4 x5; clear hb2 k2 PI)
          | (go_at_call 11; have PI := HP2.out; (with_reducible refine (rdchk_val E3.out PI.d PI.dn).mono ?_); rintro e w3 ⟨rfl, hb3⟩; have HB3 := Lib.hid hb3; clear hb3 PI))
        go_ret
        exact ⟨ret_int (by simp [H3.out]), bthen (bthen (bthen HB.out HB1.out HB.out.size) HB2.out (bthen HB.out HB1.out HB.out.size).size) HB3.out (bthen (bthen HB.out HB1.out HB.out.size) HB2.out (bthen HB.out HB1.out HB.out.size).size).size⟩
    · have h2' : (r2 != 0) = true := by simpa using h2
      have H2 := Lib.hid h2
      clear h2
      go_wp2_with (first
        | (go_at_call 9; have PI := HP.out; (with_reducible refine (r19_val E1.out PI.e PI.en).mono ?_); rintro e w1 ⟨rfl, hb1⟩; have HB1 := Lib.hid hb1; have HP1 := Lib.hid (HP.out.up hb1); have k1 := HK.out.grow hb1; have HK1 := Lib.hid k1; have d0 := k1.cell 0; have d1 := k1.cell 1; have d2 := k1.cell 2; have d3 := k1.cell 3; have d4 := k1.cell 4; have d5 := k1.cell 5; simp at d0 d1 d2 d3 d4 d5; clear hb1 k1 PI)
        | (go_at_call 10; have PI := HP1.out; (with_reducible refine (rcheck_val E2.out PI.v PI.vn PI.vs).mono ?_); rintro e w2 ⟨rfl, hb2⟩; have HB2 := Lib.hid hb2; clear hb2 PI))
      go_ret
      exact ⟨ret_int (by simp [H2.out]), bthen (bthen HB.out HB1.out HB.out.size) HB2.out (bthen HB.out HB1.out HB.out.size).size⟩
  · have h1' : (r1 != 0) = true := by simpa using h1
    have H1 := Lib.hid h1
    clear h1
    go_wp2_with (go_at_call 9; have PI := HP.out; (with_reducible refine (r19_val E1.out PI.e PI.en).mono ?_); rintro e w1 ⟨rfl, hb1⟩; have HB1 := Lib.hid hb1; clear hb1 PI)
    go_ret
    exact ⟨ret_int (by simp [H1.out]), bthen HB.out HB1.out HB.out.size⟩
end Go.Proofs.Ytmoakdplhfgipaa
