/- Contracts of Kinds, Useful, Ints, Fits, of the program and of the reference. -/
import Derived.Test.YthalbjnjlgnndaaVeh
namespace Go.Proofs.Ythalbjnjlgnndaa
open Go.RowKit Go.Maps

def kindsK (kinds : Int) (k : Nat) : List Nat := (List.range k).filter fun j => carB kinds (j : Int)
theorem kindsK_succ (kinds : Int) (k : Nat) : kindsK kinds (k + 1) = kindsK kinds k ++ if carB kinds (k : Int) then [k] else [] := by
  unfold kindsK
  rw [List.range_succ, List.filter_append]
  cases h : carB kinds (k : Int) <;> simp [h]
theorem kindsK_len (kinds : Int) (k : Nat) : (kindsK kinds k).length ≤ k := by
  unfold kindsK
  have := List.length_filter_le (fun j : Nat => carB kinds (j : Int)) (List.range k)
  simpa using this

set_option maxRecDepth 100000 in
set_option maxHeartbeats 800000 in
theorem kinds_any (v : Veh) (w : World) :
    Calls Try.prog 17 #[.agg v.vs] w fun e w' => ∃ A c, e = .returned (.slice A (kindsL v.kinds).length c) ∧ RdS w' (fun b => w.heap.size ≤ b ∧ b < w'.heap.size) A (kindsL v.kinds).length (ints (kindsL v.kinds)) ∧ Below w.heap.size w w' := by
  obtain ⟨i0, hi, hz0, hz1, hz2⟩ := info_parts infoI
  have HV0 := Lib.hid (Blk.new w 32 v.vs)
  have HB0 : Hid (Below w.heap.size w (w.alloc (.cells v.vs 32))) := Lib.hid (by go_grown)
  go_enter Try.func17, Try.ntmps17
  go_wp2
  go_loopw [3, 5] (fun o i wr => ∃ k : Nat, k ≤ 16 ∧ i = .int .i64 (k : Nat) ∧ wr.ownsRow (w.heap.size + 1) 3 1 o (kindsK v.kinds k).length (ints (kindsK v.kinds k)) ∧ Blk wr w.heap.size 32 v.vs ∧ Below w.heap.size w wr) (fun _ i _ => 16 - (intOf i).toNat)
  case atStart => exact ⟨0, by omega, rfl, World.ownsRow_nil _ _ _ _, HV0.out, HB0.out⟩
  case round =>
    obtain ⟨k, hk, rfl, hown, hblk, hbel⟩ := hrel
    have HO := Lib.hid hown
    have HB := Lib.hid hbel
    have HV := Lib.hid hblk
    have hlt := hblk.lt
    have c0 := hblk.cell 0
    have c1 := hblk.cell 1
    have c2 := hblk.cell 2
    have c3 := hblk.cell 3
    have c4 := hblk.cell 4
    have c5 := hblk.cell 5
    simp at c0 c1 c2 c3 c4 c5
    have hle := kindsK_len v.kinds k
    have HS := Lib.hid (kindsK_succ v.kinds k)
    clear hown hblk hbel
    by_cases hk16 : k < 16
    · cases hc : carB v.kinds (k : Int)
      · have HC := Lib.hid hc
        clear hc
        go_wp2_with (go_at_call 14; refine (carries_any v (k : Int) _).mono ?_; rw [HC.out]; rintro e w1 ⟨rfl, hb1⟩; have H1 := Lib.hid hb1; clear hb1)
        go_roundw
        case rel => exact ⟨k + 1, by omega, by go_num, by rw [HS.out, HC.out]; simp only [Bool.false_eq_true, if_false, List.append_nil]; exact HO.out.kept (row := none) ⟨H1.out.os, H1.out.tape, H1.out.output, H1.out.size, fun i hi _ => H1.out.block i hi⟩ (by cases h : Value.ownBlock _ <;> simp), HV.out.grow H1.out, HB.out.trans (H1.out.mono HB.out.size)⟩
        case measure => simp [intOf]; omega
      · have HC := Lib.hid hc
        clear hc
        go_wp2_with (first
          | (go_at_call 14; refine (carries_any v (k : Int) _).mono ?_; rw [HC.out]; rintro e w1 ⟨rfl, hb1⟩; have H1 := Lib.hid hb1; have HO1 : Hid (World.ownsRow w1 _ _ _ _ _ _) := Lib.hid (HO.out.kept (row := none) ⟨hb1.os, hb1.tape, hb1.output, hb1.size, fun i hi _ => hb1.block i hi⟩ (by cases h : Value.ownBlock _ <;> simp)); have hsz1 := hb1.size; clear hb1)
          | (at_builtin; refine wpList_append_own _ rfl _ _ 34 rfl (w.heap.size + 1) 3 i0 (.int .i64 0) 1 8 Try.underlying34 hi hz0 hz1 hz2 rfl (by decide) _ _ _ rfl (HO1.out.alloc _) ⟨w1.heap.size, 0, none⟩ 1 1 [.int .i64 (k : Int)] rfl rfl (cell_one_new _ _ _) (by intro u hu; simp at hu; subst hu; rfl) (by unfold maxLen; omega) (by omega) (by simp; omega) ?_; intro v' w2 hown1 hgrow _; have HG := Lib.hid hgrow; have HO2 := Lib.hid hown1; clear hown1 hgrow))
        go_roundw
        case rel => exact ⟨k + 1, by omega, by go_num, by rw [HS.out, HC.out]; simp only [if_true, List.length_append, ints_snoc]; exact HO2.out, ((HV.out.grow H1.out).alloc _).keep (HG.out.block _ (by simp; omega) (fun e => by have := (HO1.out.lt _ e.symm).1; omega)), ((HB.out.trans (H1.out.mono HB.out.size)).alloc (by have := HB.out.size; omega) _).grown HG.out (by have := HB.out.size; simp; omega) (fun j e => by have := (HO1.out.lt j e).1; omega)⟩
        case measure => simp [intOf]; omega
    · have e : k = 16 := by omega
      subst e
      obtain ⟨A', c', rfl, hrd⟩ := own_rd HO.out
      have HR := Lib.hid hrd
      clear hrd
      go_wp2
      go_ret
      exact ⟨A', c', rfl, HR.out.mono fun b hb => ⟨by omega, hb.2⟩, HB.out⟩

set_option maxRecDepth 100000 in
set_option maxHeartbeats 800000 in
theorem rkinds_any (v : Veh) (w : World) :
    Calls Try.prog 18 #[.agg v.vs] w fun e w' => ∃ A c, e = .returned (.slice A (kindsL v.kinds).length c) ∧ RdS w' (fun b => w.heap.size ≤ b ∧ b < w'.heap.size) A (kindsL v.kinds).length (ints (kindsL v.kinds)) ∧ Below w.heap.size w w' := by
  obtain ⟨i0, hi, hz0, hz1, hz2⟩ := info_parts infoI
  have HV0 := Lib.hid (Blk.new w 32 v.vs)
  have HB0 : Hid (Below w.heap.size w (w.alloc (.cells v.vs 32))) := Lib.hid (by go_grown)
  go_enter Try.func18, Try.ntmps18
  go_wp2
  go_loopw [3, 4] (fun o i wr => ∃ k : Nat, k ≤ 16 ∧ i = .int .i64 (k : Nat) ∧ wr.ownsRow (w.heap.size + 1) 3 1 o (kindsK v.kinds k).length (ints (kindsK v.kinds k)) ∧ Blk wr w.heap.size 32 v.vs ∧ Below w.heap.size w wr) (fun _ i _ => 16 - (intOf i).toNat)
  case atStart => exact ⟨0, by omega, rfl, World.ownsRow_nil _ _ _ _, HV0.out, HB0.out⟩
  case round =>
    obtain ⟨k, hk, rfl, hown, hblk, hbel⟩ := hrel
    have HO := Lib.hid hown
    have HB := Lib.hid hbel
    have HV := Lib.hid hblk
    have hlt := hblk.lt
    have c0 := hblk.cell 0
    have c1 := hblk.cell 1
    have c2 := hblk.cell 2
    have c3 := hblk.cell 3
    have c4 := hblk.cell 4
    have c5 := hblk.cell 5
    simp at c0 c1 c2 c3 c4 c5
    have hle := kindsK_len v.kinds k
    have HS := Lib.hid (kindsK_succ v.kinds k)
    clear hown hblk hbel
    by_cases hk16 : k < 16
    · cases hc : carB v.kinds (k : Int)
      · have HC := Lib.hid hc
        clear hc
        go_wp2_with (go_at_call 15; refine (rcarries_any v (k : Int) _).mono ?_; rw [HC.out]; rintro e w1 ⟨rfl, hb1⟩; have H1 := Lib.hid hb1; clear hb1)
        go_roundw
        case rel => exact ⟨k + 1, by omega, by go_num, by rw [HS.out, HC.out]; simp only [Bool.false_eq_true, if_false, List.append_nil]; exact HO.out.kept (row := none) ⟨H1.out.os, H1.out.tape, H1.out.output, H1.out.size, fun i hi _ => H1.out.block i hi⟩ (by cases h : Value.ownBlock _ <;> simp), HV.out.grow H1.out, HB.out.trans (H1.out.mono HB.out.size)⟩
        case measure => simp [intOf]; omega
      · have HC := Lib.hid hc
        clear hc
        go_wp2_with (first
          | (go_at_call 15; refine (rcarries_any v (k : Int) _).mono ?_; rw [HC.out]; rintro e w1 ⟨rfl, hb1⟩; have H1 := Lib.hid hb1; have HO1 : Hid (World.ownsRow w1 _ _ _ _ _ _) := Lib.hid (HO.out.kept (row := none) ⟨hb1.os, hb1.tape, hb1.output, hb1.size, fun i hi _ => hb1.block i hi⟩ (by cases h : Value.ownBlock _ <;> simp)); have hsz1 := hb1.size; clear hb1)
          | (at_builtin; refine wpList_append_own _ rfl _ _ 34 rfl (w.heap.size + 1) 3 i0 (.int .i64 0) 1 8 Try.underlying34 hi hz0 hz1 hz2 rfl (by decide) _ _ _ rfl (HO1.out.alloc _) ⟨w1.heap.size, 0, none⟩ 1 1 [.int .i64 (k : Int)] rfl rfl (cell_one_new _ _ _) (by intro u hu; simp at hu; subst hu; rfl) (by unfold maxLen; omega) (by omega) (by simp; omega) ?_; intro v' w2 hown1 hgrow _; have HG := Lib.hid hgrow; have HO2 := Lib.hid hown1; clear hown1 hgrow))
        go_roundw
        case rel => exact ⟨k + 1, by omega, by go_num, by rw [HS.out, HC.out]; simp only [if_true, List.length_append, ints_snoc]; exact HO2.out, ((HV.out.grow H1.out).alloc _).keep (HG.out.block _ (by simp; omega) (fun e => by have := (HO1.out.lt _ e.symm).1; omega)), ((HB.out.trans (H1.out.mono HB.out.size)).alloc (by have := HB.out.size; omega) _).grown HG.out (by have := HB.out.size; simp; omega) (fun j e => by have := (HO1.out.lt j e).1; omega)⟩
        case measure => simp [intOf]; omega
    · have e : k = 16 := by omega
      subst e
      obtain ⟨A', c', rfl, hrd⟩ := own_rd HO.out
      have HR := Lib.hid hrd
      clear hrd
      go_wp2
      go_ret
      exact ⟨A', c', rfl, HR.out.mono fun b hb => ⟨by omega, hb.2⟩, HB.out⟩
end Go.Proofs.Ythalbjnjlgnndaa
