/- Contracts of Useful and Ints, of the program and of the reference. -/
import Derived.Test.YthalbjnjlgnndaaVehK
namespace Go.Proofs.Ythalbjnjlgnndaa
open Go.RowKit Go.Maps

set_option maxRecDepth 100000 in
set_option maxHeartbeats 1600000 in
theorem useful_any {w : World} {A : Option Addr} {n c : Nat} {L : List Veh} (h : RdT w (· < w.heap.size) 6 Veh.cs A n L) (hn : n ≤ 1099511627776) (kind : Int) :
    Calls Try.prog 19 #[.slice A n c, .int .i64 kind] w fun e w' => ∃ A' c', e = .returned (.slice A' (atL (fun x : Veh => carB x.kinds kind) L).length c') ∧ RdS w' (fun b => w.heap.size ≤ b ∧ b < w'.heap.size) A' (atL (fun x : Veh => carB x.kinds kind) L).length (ints (atL (fun x : Veh => carB x.kinds kind) L)) ∧ Below w.heap.size w w' := by
  have hlen : L.length = n := h.1
  have HL := Lib.hid hlen
  have H := Lib.hid h
  obtain ⟨i0, hi, hz0, hz1, hz2⟩ := info_parts infoI
  clear h hlen
  go_enter Try.func19, Try.ntmps19
  go_wp2
  go_loopw [5, 10] (fun v i wr => ∃ k : Nat, k ≤ n ∧ i = .int .i64 (k : Nat) ∧ wr.ownsRow w.heap.size 3 1 v (atL (fun x : Veh => carB x.kinds kind) (L.take k)).length (ints (atL (fun x : Veh => carB x.kinds kind) (L.take k))) ∧ Below w.heap.size w wr) (fun _ i _ => n - (intOf i).toNat)
  case atStart => exact ⟨0, Nat.zero_le _, rfl, World.ownsRow_nil _ _ _ _, Below.refl _ _⟩
  case round =>
    obtain ⟨k, hk, rfl, hown, hbel⟩ := hrel
    have HO := Lib.hid hown
    have HB := Lib.hid hbel
    clear hown hbel
    by_cases hlt : k < n
    · obtain ⟨x, hx⟩ := at_lt (l := L) (k := k) (by rw [HL.out]; exact hlt)
      obtain ⟨b, o, rfl, hb, hc⟩ := H.out.2 (by omega)
      have hcx := (H.out.cells_ hlt hx HB.out).2
      have c0 := hcx 0 _ rfl
      rw [Nat.add_zero] at c0
      have c1 := hcx 1 _ rfl
      have c2 := hcx 2 _ rfl
      have c3 := hcx 3 _ rfl
      have c4 := hcx 4 _ rfl
      have c5 := hcx 5 _ rfl
      clear hcx hc
      have HTK := Lib.hid (atL_take (fun x : Veh => carB x.kinds kind) hx)
      have hle := atL_len (fun x : Veh => carB x.kinds kind) (L.take k)
      rw [List.length_take, HL.out] at hle
      have HBA := Lib.hid (HB.out.alloc HB.out.size (.cells x.vs 32))
      have HOA := Lib.hid (HO.out.alloc (.cells x.vs 32))
      clear hx
      cases hp : carB x.kinds kind
      · have HP := Lib.hid hp
        clear hp
        go_wp2_with (go_at_call 14; refine (carries_any x kind _).mono ?_; rw [HP.out]; rintro e w1 ⟨rfl, hb1⟩; have H1 := Lib.hid hb1; clear hb1)
        go_roundw
        case rel => exact ⟨k + 1, by omega, by go_num, by rw [HTK.out, HP.out]; simp only [Bool.false_eq_true, if_false, List.append_nil]; exact HOA.out.kept (row := none) ⟨H1.out.os, H1.out.tape, H1.out.output, H1.out.size, fun i hi _ => H1.out.block i hi⟩ (by cases h : Value.ownBlock _ <;> simp), HBA.out.trans (H1.out.mono HBA.out.size)⟩
        case measure => simp [intOf]; omega
      · have HP := Lib.hid hp
        clear hp
        go_wp2_with (first
          | (go_at_call 14; refine (carries_any x kind _).mono ?_; rw [HP.out]; rintro e w1 ⟨rfl, hb1⟩; have H1 := Lib.hid hb1; have HO1 : Hid (World.ownsRow w1 _ _ _ _ _ _) := Lib.hid (HOA.out.kept (row := none) ⟨hb1.os, hb1.tape, hb1.output, hb1.size, fun i hi _ => hb1.block i hi⟩ (by cases h : Value.ownBlock _ <;> simp)); have HB1 := Lib.hid (HBA.out.trans (hb1.mono HBA.out.size)); have hsz1 := HB1.out.size; clear hb1)
          | (at_builtin; refine wpList_append_own _ rfl _ _ 34 rfl w.heap.size 3 i0 (.int .i64 0) 1 8 Try.underlying34 hi hz0 hz1 hz2 rfl (by decide) _ _ _ rfl (HO1.out.alloc _) ⟨w1.heap.size, 0, none⟩ 1 1 [.int .i64 (k : Int)] rfl rfl (cell_one_new _ _ _) (by intro u hu; simp at hu; subst hu; rfl) (by unfold maxLen; omega) (by omega) (by simp; omega) ?_; intro v' w2 hown1 hgrow _; have HG := Lib.hid hgrow; have HO2 := Lib.hid hown1; clear hown1 hgrow))
        go_roundw
        case rel => exact ⟨k + 1, by omega, by go_num, by rw [HTK.out, HP.out]; simp only [if_true, List.length_append, ints_snoc]; exact HO2.out, (HB1.out.alloc HB1.out.size _).grown HG.out (by simp; omega) (fun j e => (HO1.out.lt j e).1)⟩
        case measure => simp [intOf]; omega
    · have e : k = n := by omega
      subst e
      have ho := HO.out
      rw [List.take_of_length_le (by rw [HL.out]; exact Nat.le_refl _)] at ho
      obtain ⟨A', c', rfl, hrd⟩ := own_rd ho
      have HR := Lib.hid hrd
      clear ho hrd
      go_wp2
      go_ret
      exact ⟨A', c', rfl, HR.out, HB.out⟩

set_option maxRecDepth 100000 in
set_option maxHeartbeats 1600000 in
theorem ruseful_any {w : World} {A : Option Addr} {n c : Nat} {L : List Veh} (h : RdT w (· < w.heap.size) 6 Veh.cs A n L) (hn : n ≤ 1099511627776) (kind : Int) :
    Calls Try.prog 20 #[.slice A n c, .int .i64 kind] w fun e w' => ∃ A' c', e = .returned (.slice A' (atL (fun x : Veh => carB x.kinds kind) L).length c') ∧ RdS w' (fun b => w.heap.size ≤ b ∧ b < w'.heap.size) A' (atL (fun x : Veh => carB x.kinds kind) L).length (ints (atL (fun x : Veh => carB x.kinds kind) L)) ∧ Below w.heap.size w w' := by
  have hlen : L.length = n := h.1
  have HL := Lib.hid hlen
  have H := Lib.hid h
  obtain ⟨i0, hi, hz0, hz1, hz2⟩ := info_parts infoI
  clear h hlen
  go_enter Try.func20, Try.ntmps20
  go_wp2
  go_loopw [5, 6] (fun v i wr => ∃ k : Nat, k ≤ n ∧ i = .int .i64 (k : Nat) ∧ wr.ownsRow w.heap.size 3 1 v (atL (fun x : Veh => carB x.kinds kind) (L.take k)).length (ints (atL (fun x : Veh => carB x.kinds kind) (L.take k))) ∧ Below w.heap.size w wr) (fun _ i _ => n - (intOf i).toNat)
  case atStart => exact ⟨0, Nat.zero_le _, rfl, World.ownsRow_nil _ _ _ _, Below.refl _ _⟩
  case round =>
    obtain ⟨k, hk, rfl, hown, hbel⟩ := hrel
    have HO := Lib.hid hown
    have HB := Lib.hid hbel
    clear hown hbel
    by_cases hlt : k < n
    · obtain ⟨x, hx⟩ := at_lt (l := L) (k := k) (by rw [HL.out]; exact hlt)
      obtain ⟨b, o, rfl, hb, hc⟩ := H.out.2 (by omega)
      have hcx := (H.out.cells_ hlt hx HB.out).2
      have c0 := hcx 0 _ rfl
      rw [Nat.add_zero] at c0
      have c1 := hcx 1 _ rfl
      have c2 := hcx 2 _ rfl
      have c3 := hcx 3 _ rfl
      have c4 := hcx 4 _ rfl
      have c5 := hcx 5 _ rfl
      clear hcx hc
      have HTK := Lib.hid (atL_take (fun x : Veh => carB x.kinds kind) hx)
      have hle := atL_len (fun x : Veh => carB x.kinds kind) (L.take k)
      rw [List.length_take, HL.out] at hle
      have HBA := Lib.hid HB.out
      have HOA := Lib.hid HO.out
      clear hx
      cases hp : carB x.kinds kind
      · have HP := Lib.hid hp
        clear hp
        go_wp2_with (go_at_call 15; refine (rcarries_any x kind _).mono ?_; rw [HP.out]; rintro e w1 ⟨rfl, hb1⟩; have H1 := Lib.hid hb1; clear hb1)
        go_roundw
        case rel => exact ⟨k + 1, by omega, by go_num, by rw [HTK.out, HP.out]; simp only [Bool.false_eq_true, if_false, List.append_nil]; exact HOA.out.kept (row := none) ⟨H1.out.os, H1.out.tape, H1.out.output, H1.out.size, fun i hi _ => H1.out.block i hi⟩ (by cases h : Value.ownBlock _ <;> simp), HBA.out.trans (H1.out.mono HBA.out.size)⟩
        case measure => simp [intOf]; omega
      · have HP := Lib.hid hp
        clear hp
        go_wp2_with (first
          | (go_at_call 15; refine (rcarries_any x kind _).mono ?_; rw [HP.out]; rintro e w1 ⟨rfl, hb1⟩; have H1 := Lib.hid hb1; have HO1 : Hid (World.ownsRow w1 _ _ _ _ _ _) := Lib.hid (HOA.out.kept (row := none) ⟨hb1.os, hb1.tape, hb1.output, hb1.size, fun i hi _ => hb1.block i hi⟩ (by cases h : Value.ownBlock _ <;> simp)); have HB1 := Lib.hid (HBA.out.trans (hb1.mono HBA.out.size)); have hsz1 := HB1.out.size; clear hb1)
          | (at_builtin; refine wpList_append_own _ rfl _ _ 34 rfl w.heap.size 3 i0 (.int .i64 0) 1 8 Try.underlying34 hi hz0 hz1 hz2 rfl (by decide) _ _ _ rfl (HO1.out.alloc _) ⟨w1.heap.size, 0, none⟩ 1 1 [.int .i64 (k : Int)] rfl rfl (cell_one_new _ _ _) (by intro u hu; simp at hu; subst hu; rfl) (by unfold maxLen; omega) (by omega) (by simp; omega) ?_; intro v' w2 hown1 hgrow _; have HG := Lib.hid hgrow; have HO2 := Lib.hid hown1; clear hown1 hgrow))
        go_roundw
        case rel => exact ⟨k + 1, by omega, by go_num, by rw [HTK.out, HP.out]; simp only [if_true, List.length_append, ints_snoc]; exact HO2.out, (HB1.out.alloc HB1.out.size _).grown HG.out (by simp; omega) (fun j e => (HO1.out.lt j e).1)⟩
        case measure => simp [intOf]; omega
    · have e : k = n := by omega
      subst e
      have ho := HO.out
      rw [List.take_of_length_le (by rw [HL.out]; exact Nat.le_refl _)] at ho
      obtain ⟨A', c', rfl, hrd⟩ := own_rd ho
      have HR := Lib.hid hrd
      clear ho hrd
      go_wp2
      go_ret
      exact ⟨A', c', rfl, HR.out, HB.out⟩

set_option maxRecDepth 100000 in
set_option maxHeartbeats 800000 in
theorem ints_any {w : World} {A A' : Option Addr} {c c' : Nat} {l : List Nat} (h : RdS w (· < w.heap.size) A l.length (ints l)) (h' : RdS w (· < w.heap.size) A' l.length (ints l)) (hn : l.length ≤ 1099511627776) :
    Calls Try.prog 16 #[.slice A l.length c, .slice A' l.length c'] w fun e w' => e = .returned (.bool true) ∧ Below w.heap.size w w' := by
  have H := Lib.hid h
  have H' := Lib.hid h'
  clear h h'
  generalize hm : l.length = n at *
  have HM := Lib.hid hm
  clear hm
  go_enter Try.func16, Try.ntmps16
  go_wp2
  go_loopw [5] (fun i wr => ∃ k : Nat, k ≤ n ∧ i = .int .i64 (k : Nat) ∧ Below w.heap.size w wr) (fun i _ => n - (intOf i).toNat)
  case atStart => exact ⟨0, Nat.zero_le _, rfl, Below.refl _ _⟩
  case round =>
    obtain ⟨k, hk, rfl, hbel⟩ := hrel
    have HB := Lib.hid hbel
    by_cases hlt : k < n
    · obtain ⟨b, o, u, rfl, hb, hu, hc⟩ := (H.out.below hbel).at_ hlt
      obtain ⟨b', o', u', rfl, hb', hu', hc'⟩ := (H'.out.below hbel).at_ hlt
      rw [hu] at hu'
      cases hu'
      obtain ⟨x, hx⟩ := at_lt (l := l) (k := k) (by rw [HM.out]; exact hlt)
      have hu2 : u = .int .i64 (x : Int) := by
        unfold ints at hu
        rw [List.getElem?_map, hx] at hu
        exact (Option.some.inj hu).symm
      subst hu2
      have i1 : (0 : Int) ≤ (k : Int) := by omega
      have i2 : (k : Int) < (n : Int) := by omega
      clear hu hx hbel
      go_wp2
      go_quiet (fail)
      go_wp2
      go_roundw
      case rel => exact ⟨k + 1, by omega, by go_num, belowN HB.out _⟩
      case measure => simp [intOf]; omega
    · have e : k = n := by omega
      subst e
      clear hbel
      go_wp2
      go_ret
      exact ⟨rfl, HB.out⟩
end Go.Proofs.Ythalbjnjlgnndaa
