/- exact.candidates. -/
import Derived.Test.YtmoakdplhfgipaaExaC
import Derived.Laws.MakeOwn
namespace Go.Proofs.Ytmoakdplhfgipaa
set_option maxRecDepth 20000
open Go.RowKit Go.Maps

theorem infoBool1 : (Try.prog.info? 4).map (fun i => (i.zero, i.size, i.bytes)) = some (some (.bool false), 1, 1) := by kernel_rfl
theorem run_make_bools (n : Nat) (hn : n ≤ 10) (w : World) :
    (Instr.makeSlice 104 (.int .i64 (n : Int)) (.int .i64 (n : Int))).run Try.prog w = .ok (.slice (some ⟨w.heap.size, 0, none⟩) n n) (w.alloc (.cells ((List.replicate n false).map Value.bool).toArray 4)) := by
  obtain ⟨i0, hi, hz0, hz1, hz2⟩ := info_parts infoBool1
  have hr := run_make (P := Try.prog) w 104 4 i0 (.bool false) Try.underlying104 hi hz0 .i64 .i64 (n : Int) (n : Int) (by omega) (by omega) (by rw [hz2]; omega) (by omega)
  have e : madeCells (Value.bool false).cells (n * i0.size) = ((List.replicate n false).map Value.bool).toArray := by
    have h1 := toList_madeCells_one (Value.bool false) n
    rw [hz1, Nat.mul_one]
    apply Array.toList_inj.1
    show (madeCells #[Value.bool false] n).toList = _
    rw [h1]
    simp
  simp only [Int.toNat_natCast] at hr
  rw [hr, e]
theorem run_make_stops (n : Nat) (hn : n ≤ 10) (w : World) :
    (Instr.makeSlice 29 (.int .i64 0) (.int .i64 (n : Int))).run Try.prog w = .ok (.slice (some ⟨w.heap.size, 0, none⟩) 0 n) (w.alloc (.cells (rowI (List.replicate n 0)) 3)) := by
  obtain ⟨i0, hi, hz0, hz1, hz2⟩ := info_parts infoI
  have hr := run_make (P := Try.prog) w 29 3 i0 (.int .i64 0) Try.underlying29 hi hz0 .i64 .i64 0 (n : Int) (by omega) (by omega) (by rw [hz2]; omega) (by omega)
  have e : madeCells (Value.int .i64 0).cells (n * i0.size) = rowI (List.replicate n 0) := by
    have h1 := toList_madeCells_one (Value.int .i64 0) n
    rw [hz1, Nat.mul_one]
    apply Array.toList_inj.1
    show (madeCells #[Value.int .i64 0] n).toList = _
    rw [h1]
    unfold rowI
    simp
  simp only [Int.toNat_natCast, Int.toNat_zero] at hr
  rw [hr, e]
theorem st_fn (w : World) (p : Addr) (f : Fn) (x y : Array Value) : (store p (.func f x y)).run Try.prog w = stored Try.prog w p (.func f x y) .plain := run_store _ w p _ .plain rfl
set_option maxRecDepth 100000 in
set_option maxHeartbeats 3200000 in
theorem candidates_any {J : World → Prop} {B0 : Nat} {w0 w : World} {lb : Array Value} {A : Option Addr} {nd cd : Nat} {Dm : List Int}
    (hJ : ∀ W W', J W → Kp (fun b => b = w.heap.size + 2 ∨ b = w.heap.size + 4 ∨ b = w.heap.size + 5) W W' → J W') (hnd : nd ≤ 3)
    (hsee : ∀ W k S, J W → k ≤ 2 * nd → w.heap.size + 5 < W.heap.size → RdS W (· < W.heap.size) (some ⟨w.heap.size + 4, 0, none⟩) k (zs S) → Calls Try.prog 24 (#[.slice (some ⟨w.heap.size + 4, 0, none⟩) k (2 * nd)] ++ lb) W fun e w' => e = .returned (.tuple #[]) ∧ J w' ∧ Kp (fun b => B0 ≤ b ∧ b < w.heap.size) W w')
    (hD : RdS w (· < B0) A nd (zs Dm)) (hB : Below B0 w0 w) (hB0 : B0 ≤ w.heap.size) (hj : J w) :
    Calls Try.prog 23 #[.slice A nd cd, .func (.func 24) #[] lb] w fun e w' => e = .returned (.tuple #[]) ∧ J w' ∧ Below B0 w0 w' := by
  have K0 := Blk.new w 29 #[.slice A nd cd]
  have K1 := Blk.new1 w (.cells #[.slice A nd cd] 29) 81 #[.func (.func 24) #[] lb]
  have K0' := K0.alloc (.cells #[.func (.func 24) #[] lb] 81)
  have hb1 : Below w.heap.size w ((w.alloc (.cells #[.slice A nd cd] 29)).alloc (.cells #[.func (.func 24) #[] lb] 81)) := by go_grown
  have hz1 : ((w.alloc (.cells #[.slice A nd cd] 29)).alloc (.cells #[.func (.func 24) #[] lb] 81)).heap.size = w.heap.size + 2 := by simp
  obtain ⟨w1, hw1⟩ : ∃ w1, (w.alloc (.cells #[.slice A nd cd] 29)).alloc (.cells #[.func (.func 24) #[] lb] 81) = w1 := ⟨_, rfl⟩
  rw [hw1] at K1 K0' hb1 hz1
  have hmk1 := run_make_bools nd (by omega) w1
  have K2 := Blk.new_at w1 4 ((List.replicate nd false).map Value.bool).toArray hz1
  have hb2 : Below w1.heap.size w1 (w1.alloc (.cells ((List.replicate nd false).map Value.bool).toArray 4)) := by go_grown
  have hz2 : (w1.alloc (.cells ((List.replicate nd false).map Value.bool).toArray 4)).heap.size = w.heap.size + 3 := by simp [hz1]
  obtain ⟨w2, hw2⟩ : ∃ w2, w1.alloc (.cells ((List.replicate nd false).map Value.bool).toArray 4) = w2 := ⟨_, rfl⟩
  rw [hw2] at K2 hb2 hz2 hmk1
  rw [hz1] at hmk1
  have K3 := Blk.new_at w2 104 #[.slice (some ⟨w.heap.size + 2, 0, none⟩) nd nd] hz2
  have hb3 : Below w2.heap.size w2 (w2.alloc (.cells #[.slice (some ⟨w.heap.size + 2, 0, none⟩) nd nd] 104)) := by go_grown
  have hz3 : (w2.alloc (.cells #[.slice (some ⟨w.heap.size + 2, 0, none⟩) nd nd] 104)).heap.size = w.heap.size + 4 := by simp [hz2]
  obtain ⟨w3, hw3⟩ : ∃ w3, w2.alloc (.cells #[.slice (some ⟨w.heap.size + 2, 0, none⟩) nd nd] 104) = w3 := ⟨_, rfl⟩
  rw [hw3] at K3 hb3 hz3
  have hmk2 := run_make_stops (2 * nd) (by omega) w3
  have K4 := Blk.new_at w3 3 (rowI (List.replicate (2 * nd) 0)) hz3
  have hb4 : Below w3.heap.size w3 (w3.alloc (.cells (rowI (List.replicate (2 * nd) 0)) 3)) := by go_grown
  have hz4 : (w3.alloc (.cells (rowI (List.replicate (2 * nd) 0)) 3)).heap.size = w.heap.size + 5 := by simp [hz3]
  obtain ⟨w4, hw4⟩ : ∃ w4, w3.alloc (.cells (rowI (List.replicate (2 * nd) 0)) 3) = w4 := ⟨_, rfl⟩
  rw [hw4] at K4 hb4 hz4 hmk2
  rw [hz3] at hmk2
  have K5 := Blk.new_at w4 29 #[.slice (some ⟨w.heap.size + 4, 0, none⟩) 0 (2 * nd)] hz4
  have hb5 : Below w4.heap.size w4 (w4.alloc (.cells #[.slice (some ⟨w.heap.size + 4, 0, none⟩) 0 (2 * nd)] 29)) := by go_grown
  have hz5 : (w4.alloc (.cells #[.slice (some ⟨w.heap.size + 4, 0, none⟩) 0 (2 * nd)] 29)).heap.size = w.heap.size + 6 := by simp [hz4]
  obtain ⟨w5, hw5⟩ : ∃ w5, w4.alloc (.cells #[.slice (some ⟨w.heap.size + 4, 0, none⟩) 0 (2 * nd)] 29) = w5 := ⟨_, rfl⟩
  rw [hw5] at K5 hb5 hz5
  have q0 := K0'.cell 0
  simp at q0
  have q3 := ((K0'.grow hb2).grow hb3).cell 0
  simp at q3
  have K07 := ((((K0'.grow hb2).grow hb3).grow hb4).grow hb5)
  have K17 := ((((K1.grow hb2).grow hb3).grow hb4).grow hb5)
  have K27 := ((K2.grow hb3).grow hb4).grow hb5
  have K37 := (K3.grow hb4).grow hb5
  have K47 := K4.grow hb5
  have hb15 := bthen (bthen (bthen (bthen hb1 hb2 (by omega)) hb3 (by omega)) hb4 (by omega)) hb5 (by omega)
  have K6 := Blk.new_at w5 105 #[.nilFunc] hz5
  have hb6 : Below w5.heap.size w5 (w5.alloc (.cells #[.nilFunc] 105)) := by go_grown
  have hb16 := bthen hb15 hb6 hb15.size
  obtain ⟨w6, hw6⟩ : ∃ w6, w5.alloc (.cells #[.nilFunc] 105) = w6 := ⟨_, rfl⟩
  rw [hw6] at K6 hb6 hb16
  have y5 := K6.cell 0
  have yf5 := K6.frozen 0
  simp at y5
  have hb17 : Below w.heap.size w (w6.setCell ⟨w.heap.size + 6, 0, none⟩ (.func (.func 44) #[] #[.pointer (some ⟨w.heap.size + 1, 0, none⟩), .pointer (some ⟨w.heap.size + 5, 0, none⟩), .pointer (some ⟨w.heap.size, 0, none⟩), .pointer (some ⟨w.heap.size + 3, 0, none⟩), .pointer (some ⟨w.heap.size + 6, 0, none⟩)])) := below_set hb16 (by show w.heap.size ≤ w.heap.size + 6; omega) _
  have hcs : CS J B0 w0 (w6.setCell ⟨w.heap.size + 6, 0, none⟩ (.func (.func 44) #[] #[.pointer (some ⟨w.heap.size + 1, 0, none⟩), .pointer (some ⟨w.heap.size + 5, 0, none⟩), .pointer (some ⟨w.heap.size, 0, none⟩), .pointer (some ⟨w.heap.size + 3, 0, none⟩), .pointer (some ⟨w.heap.size + 6, 0, none⟩)])) lb A nd cd Dm w.heap.size (w.heap.size + 1) (w.heap.size + 2) (w.heap.size + 3) (w.heap.size + 4) (w.heap.size + 5) (w.heap.size + 6) 0 :=
    ⟨(K17.grow hb6).far (by show w.heap.size + 1 ≠ w.heap.size + 6; omega) _, (K5.grow hb6).far (by show w.heap.size + 5 ≠ w.heap.size + 6; omega) _, (K07.grow hb6).far (by show w.heap.size ≠ w.heap.size + 6; omega) _, (K37.grow hb6).far (by show w.heap.size + 3 ≠ w.heap.size + 6; omega) _, K6.set_ 0 _, ⟨_, by simp, (K27.grow hb6).far (by show w.heap.size + 2 ≠ w.heap.size + 6; omega) _⟩, ⟨_, by simp, (K47.grow hb6).far (by show w.heap.size + 4 ≠ w.heap.size + 6; omega) _⟩, hD.keep (fun b hb => hb17.block b (by omega)), hJ _ _ hj (Kp.of hb17), hB.trans (hb17.mono hB0), hB0, by omega, by omega, by omega, by omega, by omega, by omega⟩
  obtain ⟨w7, hw7⟩ : ∃ w7, w6.setCell ⟨w.heap.size + 6, 0, none⟩ (.func (.func 44) #[] #[.pointer (some ⟨w.heap.size + 1, 0, none⟩), .pointer (some ⟨w.heap.size + 5, 0, none⟩), .pointer (some ⟨w.heap.size, 0, none⟩), .pointer (some ⟨w.heap.size + 3, 0, none⟩), .pointer (some ⟨w.heap.size + 6, 0, none⟩)]) = w7 := ⟨_, rfl⟩
  rw [hw7] at hcs
  have q6 := hcs.d.cell 0
  have y6 := hcs.y.cell 0
  simp at q6 y6
  have HC := Lib.hid (cand1_any hJ hnd hsee nd w7 0 (by omega) hcs)
  clear hJ hsee hcs hD hB hj K0 K1 K0' K2 K3 K4 K5 K6 K07 K17 K27 K37 K47 hb1 hb2 hb3 hb4 hb5 hb6 hb15 hb16 hb17
  rw [show ((2 * nd : Nat) : Int) = 2 * (nd : Int) by omega] at hmk2
  have hwr : IntKind.i64.wrap (2 * (nd : Int)) = 2 * (nd : Int) := IntWalk.i64_in _ (by omega)
  go_enter Try.func23, Try.ntmps23
  have hst := st_fn
  go_wp2_with fail
  refine HC.out.mono ?_
  rintro e w8 ⟨rfl, hs8⟩
  have HR : Hid (J w8 ∧ Below B0 w0 w8) := Lib.hid ⟨hs8.j, hs8.b⟩
  clear hs8 hst
  go_wp2_with fail
  refine bodyPost_end (results_none rfl _ _ _) rfl ⟨rfl, HR.out⟩
end Go.Proofs.Ytmoakdplhfgipaa
