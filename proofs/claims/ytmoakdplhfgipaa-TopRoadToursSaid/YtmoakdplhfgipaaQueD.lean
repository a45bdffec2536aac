/- The queue of spread in memory: Len, Peek, sink. The queue of spread in memory: sink. The queue of spread in memory: clear of its last item, Pop. The queue of spread in memory: Pop of a queue that is not empty. -/
import Derived.Test.YtmoakdplhfgipaaQueC
import Derived.Lib.SliceRun
namespace Go.Proofs.Ytmoakdplhfgipaa
set_option maxRecDepth 20000
open Go.RowKit Go.Maps

theorem qlen_any {w : World} {q g n cap : Nat} {L : List Itm} {cnt : Int} (h : QI w q g n cap L cnt) :
    Calls Try.prog 63 #[.pointer (some ⟨q, 0, none⟩)] w fun e w' => e = .returned (.int .i64 (n : Nat)) ∧ w = w' := by
  have p1 := h.b.cell 1
  simp at p1
  go_enter Try.func63, Try.ntmps63
  go_wp2
  go_ret
  exact ⟨rfl, rfl⟩
theorem peek_no {w : World} {q g cap : Nat} {L : List Itm} {cnt : Int} (h : QI w q g 0 cap L cnt) :
    Calls Try.prog 56 #[.pointer (some ⟨q, 0, none⟩)] w fun e w' => e = .returned (.tuple #[.agg #[.int .i64 0, .int .i64 0, .int .i64 0], .bool false]) ∧ Below w.heap.size w w' := by
  have HQ := Lib.hid h
  have hb0 : Below w.heap.size w (w.alloc (.cells #[.int .i64 0, .int .i64 0, .int .i64 0] 93)) := by go_grown
  have HQ1 := Lib.hid (h.up hb0)
  clear h hb0
  go_enter Try.func56, Try.ntmps56
  go_wp2_with (go_at_call 63; refine (qlen_any HQ1.out).mono ?_; rintro e w1 ⟨rfl, rfl⟩)
  have K := (Blk.new w 93 #[.int .i64 0, .int .i64 0, .int .i64 0]).alloc (.cells #[.int .i64 0, .int .i64 0, .int .i64 0] 93)
  have d0 := K.cell 0
  have d1 := K.cell 1
  have d2 := K.cell 2
  simp at d0 d1 d2
  refine bodyPost_ret (v := .tuple #[.agg #[.int .i64 0, .int .i64 0, .int .i64 0], .bool false]) (by simp [results, Try.results56, go_sem, d0, d1, d2]) rfl ⟨rfl, by go_grown⟩
theorem peek_some {w : World} {q g n cap : Nat} {x : Itm} {L : List Itm} {cnt : Int} (h : QI w q g n cap (x :: L) cnt) :
    Calls Try.prog 56 #[.pointer (some ⟨q, 0, none⟩)] w fun e w' => e = .returned (.tuple #[.agg #[.int .i64 x.v, .int .i64 x.s, .int .i64 x.m], .bool true]) ∧ Below w.heap.size w w' := by
  have HQ := Lib.hid h
  have hn : n = L.length + 1 := by rw [← h.l]; rfl
  have hb0 : Below w.heap.size w (w.alloc (.cells #[.int .i64 0, .int .i64 0, .int .i64 0] 93)) := by go_grown
  have hq1 := h.up hb0
  have HQ1 := Lib.hid hq1
  obtain ⟨p2, p3, p4, p5⟩ := hq1.cell (i := 0) (x := x) rfl
  have p1 := hq1.b.cell 1
  simp at p1 p2 p3 p4 p5
  obtain ⟨xv, xs, xm, xk⟩ := x
  simp only at p2 p3 p4 p5 ⊢
  clear h hb0 hq1
  go_enter Try.func56, Try.ntmps56
  go_wp2_with (go_at_call 63; refine (qlen_any HQ1.out).mono ?_; rintro e w1 ⟨rfl, rfl⟩)
  have K := Blk.new w 93 #[.int .i64 xv, .int .i64 xs, .int .i64 xm]
  have d0 := K.cell 0
  have d1 := K.cell 1
  have d2 := K.cell 2
  simp at d0 d1 d2
  refine bodyPost_ret (v := .tuple #[.agg #[.int .i64 xv, .int .i64 xs, .int .i64 xm], .bool true]) (by simp [results, Try.results56, go_sem, d0, d1, d2]) rfl ⟨rfl, by go_grown⟩
/-- the same items in another order, the queue else as it was -/
def Moved (w w' : World) (q g n cap : Nat) (L : List Itm) (cnt : Int) : Prop := ∃ L', QI w' q g n cap L' cnt ∧ L'.Perm L ∧ Kp (fun b => b = g) w w'
theorem swp_perm {L : List Itm} {i k : Nat} (hi : i < L.length) (hk : k < L.length) : (swp L i k).Perm L := by
  unfold swp
  rw [List.getElem?_eq_getElem hi, List.getElem?_eq_getElem hk]
  exact List.set_set_perm hi hk

theorem Moved.refl {w : World} {q g n cap : Nat} {L : List Itm} {cnt : Int} (h : QI w q g n cap L cnt) : Moved w w q g n cap L cnt := ⟨L, h, List.Perm.refl _, Kp.refl _ _⟩
theorem Moved.then {w w1 w2 : World} {q g n cap : Nat} {L : List Itm} {cnt : Int} (h : Moved w w1 q g n cap L cnt) (hb : Below w1.heap.size w1 w2) : Moved w w2 q g n cap L cnt := by
  obtain ⟨L', h1, h2, h3⟩ := h
  exact ⟨L', h1.up hb, h2, h3.then hb⟩
set_option maxRecDepth 100000 in
set_option maxHeartbeats 3200000 in
theorem sink_any {w : World} {q g n cap : Nat} {L : List Itm} {cnt : Int} (h : QI w q g n cap L cnt) (hn : n ≤ 4398046511104) :
    Calls Try.prog 57 #[.pointer (some ⟨q, 0, none⟩)] w fun e w' => e = .returned (.tuple #[]) ∧ Moved w w' q g n cap L cnt := by
  have HM := Lib.hid (Moved.refl h)
  clear h
  go_enter Try.func57, Try.ntmps57
  go_wp2
  go_loopw [2] (fun i wr => ∃ a : Nat, i = .int .i64 (a : Nat) ∧ (a = 0 ∨ a < n) ∧ Moved w wr q g n cap L cnt) (fun i _ => n - (intOf i).toNat)
  case atStart => exact ⟨0, rfl, .inl rfl, HM.out⟩
  case round =>
    obtain ⟨a, rfl, ha, hm⟩ := hrel
    have HMR := Lib.hid hm
    clear hm
    have ha2 : a ≤ 4398046511104 := by omega
    go_wp2
    obtain ⟨wo, rfl⟩ : ∃ wo : World, wo = wr := ⟨_, rfl⟩
    go_loopw [3, 4] (fun nx kk wx => ∃ k t : Nat, kk = .int .i64 (k : Nat) ∧ nx = .int .i64 (t : Nat) ∧ 2 * a + 1 ≤ k ∧ k ≤ 2 * a + 3 ∧ (t = a ∨ (2 * a + 1 ≤ t ∧ t < k ∧ t < n)) ∧ Moved w wx q g n cap L cnt) (fun _ kk _ => 2 * a + 3 - (intOf kk).toNat)
    case atStart => exact ⟨2 * a + 1, a, by go_num, rfl, Nat.le_refl _, by omega, .inl rfl, HMR.out⟩
    case round =>
      obtain ⟨k, t, rfl, rfl, hk1, hk2, ht, hm⟩ := hrel
      have HMX := Lib.hid hm
      obtain ⟨L', hq, hp, hkp⟩ := hm
      have HQX := Lib.hid hq
      have HP := Lib.hid hp
      have HKP := Lib.hid hkp
      have p1 := hq.b.cell 1
      simp at p1
      have zq := hq.qlt
      clear hq hp hkp
      have hk4 : k ≤ 8796093022215 := by omega
      by_cases c1 : k ≤ 2 * a + 2
      · by_cases c2 : k < n
        · have ht2 : t < n := by omega
          go_wp2_with (go_at_call 54; (with_reducible refine (before_any HQX.out c2 ht2).mono ?_); rintro e w1 ⟨⟨b, rfl⟩, hb1⟩; have HB1 := Lib.hid hb1; clear hb1)
          all_goals first
            | (go_roundw
               case rel => exact ⟨k + 1, k, by go_num, rfl, by omega, by omega, .inr ⟨by omega, by omega, c2⟩, HMX.out.then HB1.out⟩
               case measure => simp [intOf]; omega)
            | (go_roundw
               case rel => exact ⟨k + 1, t, by go_num, rfl, by omega, by omega, by omega, HMX.out.then HB1.out⟩
               case measure => simp [intOf]; omega)
        · have c3 : decide ((k : Int) < (n : Int)) = false := by simp; omega
          by_cases e : t = a
          · subst e
            clear p1
            have p1 := HQX.out.b.cell 1
            simp at p1
            go_wp2
            refine bodyPost_ret (results_none rfl _ _ _) rfl ⟨rfl, HMX.out⟩
          · have e2 : ((t : Int) == (a : Int)) = false := by simp; omega
            have t1 : t < n := by omega
            have a1 : a < n := by omega
            go_wp2_with (go_at_call 55; (with_reducible refine (swap_any HQX.out a1 t1).mono ?_); rintro e w1 ⟨rfl, hq1, hk1⟩; have HQ1 := Lib.hid hq1; have HK1 := Lib.hid hk1; clear hq1 hk1)
            go_roundw
            case rel => exact ⟨t, rfl, .inr t1, _, HQ1.out, (swp_perm (by rw [HQX.out.l]; exact a1) (by rw [HQX.out.l]; exact t1)).trans HP.out, HKP.out.trans HK1.out⟩
            case measure => simp [intOf]; omega
      · have c3 : decide ((k : Int) ≤ 2 * (a : Int) + 2) = false := by simp; omega
        by_cases e : t = a
        · subst e
          clear p1
          have p1 := HQX.out.b.cell 1
          simp at p1
          go_wp2
          refine bodyPost_ret (results_none rfl _ _ _) rfl ⟨rfl, HMX.out⟩
        · have e2 : ((t : Int) == (a : Int)) = false := by simp; omega
          have t1 : t < n := by omega
          have a1 : a < n := by omega
          go_wp2_with (go_at_call 55; (with_reducible refine (swap_any HQX.out a1 t1).mono ?_); rintro e w1 ⟨rfl, hq1, hk1⟩; have HQ1 := Lib.hid hq1; have HK1 := Lib.hid hk1; clear hq1 hk1)
          go_roundw
          case rel => exact ⟨t, rfl, .inr t1, _, HQ1.out, (swp_perm (by rw [HQX.out.l]; exact a1) (by rw [HQX.out.l]; exact t1)).trans HP.out, HKP.out.trans HK1.out⟩
          case measure => simp [intOf]; omega

theorem infoQ : (Try.prog.info? 121).map (fun i => (i.zero, i.size, i.bytes)) = some (some (.agg #[.int .i64 0, .int .i64 0, .int .i64 0, .int .i64 0]), 4, 32) := by kernel_rfl
theorem run_clear_item {w : World} {q g n cap : Nat} {L : List Itm} {cnt : Int} (h : QI w q g n cap L cnt) {i : Nat} (hi : i < n) (ty : TypeId) (c : Nat) :
    (Builtin.clear_ #[117] ty #[.slice (some ⟨g, i * 4, none⟩) 1 c]).run Try.prog w = .ok (.tuple #[]) (putI w g i ⟨0, 0, 0, 0⟩) := by
  obtain ⟨i0, hi0, hz0, hz1, hz2⟩ := info_parts infoQ
  obtain ⟨x, hx⟩ := at_lt (l := L) (k := i) (by rw [h.l]; exact hi)
  obtain ⟨p2, p3, p4, p5⟩ := h.cell hx
  have hst := run_storeCells_cells (P := Try.prog) g (i * 4) [.int .i64 0, .int .i64 0, .int .i64 0, .int .i64 0] 0 w (fun j hj => by
    simp at hj
    have : j = 0 ∨ j = 1 ∨ j = 2 ∨ j = 3 := by omega
    rcases this with rfl | rfl | rfl | rfl <;> simp [p2, p3, p4, p5]) (fun j _ => h.frozen _) (by intro v hv; simp at hv; subst hv; rfl)
  simp only [Nat.add_zero] at hst
  have hv : (zeroValue 121).run Try.prog w = .ok (.agg #[.int .i64 0, .int .i64 0, .int .i64 0, .int .i64 0]) w := by
    simp [zeroValue, typeInfo, hi0, hz0]
  have hzc : (Builtin.zeroCells (Value.agg #[.int .i64 0, .int .i64 0, .int .i64 0, .int .i64 0]).cells 1).toList = [.int .i64 0, .int .i64 0, .int .i64 0, .int .i64 0] := by first | rfl | kernel_rfl
  simp [Builtin.clear_, run_underlying Try.underlying117, hv, hzc, hst]
  rfl
theorem pop_no {w : World} {q g cap : Nat} {L : List Itm} {cnt : Int} (h : QI w q g 0 cap L cnt) :
    Calls Try.prog 39 #[.pointer (some ⟨q, 0, none⟩)] w fun e w' => e = .returned (.tuple #[.agg #[.int .i64 0, .int .i64 0, .int .i64 0], .bool false]) ∧ Below w.heap.size w w' := by
  have hb0 : Below w.heap.size w (w.alloc (.cells #[.int .i64 0, .int .i64 0, .int .i64 0] 93)) := by go_grown
  have HQ1 := Lib.hid (h.up hb0)
  have HK := Lib.hid (Blk.new w 93 #[.int .i64 0, .int .i64 0, .int .i64 0])
  have HB0 := Lib.hid hb0
  clear h hb0
  go_enter Try.func39, Try.ntmps39
  go_wp2_with (go_at_call 56; refine (peek_no HQ1.out).mono ?_; rintro e w1 ⟨rfl, hb1⟩; have k1 := HK.out.grow hb1; have HK1 := Lib.hid k1; have z1 := k1.lt; have c0 := k1.cell 0; have c1 := k1.cell 1; have c2 := k1.cell 2; have f0 := k1.frozen 0; have f1 := k1.frozen 1; have f2 := k1.frozen 2; simp at c0 c1 c2; have HB1 := Lib.hid (bthen HB0.out hb1 HB0.out.size); clear hb1 k1)
  have K := ((((HK1.out.set_ 0 (.int .i64 0)).set_ 1 (.int .i64 0)).set_ 2 (.int .i64 0)).alloc (.cells #[.int .i64 0, .int .i64 0, .int .i64 0] 93))
  have d0 := K.cell 0
  have d1 := K.cell 1
  have d2 := K.cell 2
  simp at d0 d1 d2
  refine bodyPost_ret (v := .tuple #[.agg #[.int .i64 0, .int .i64 0, .int .i64 0], .bool false]) (by simp [results, Try.results39, go_sem, d0, d1, d2]) rfl ⟨rfl, ?_⟩
  exact (below_set (below_set (below_set HB1.out (Nat.le_refl _) _) (Nat.le_refl _) _) (Nat.le_refl _) _).alloc (by have := HB1.out.size; simpa [World.setCell] using this) _
theorem perm_swap_last {x : Itm} {L : List Itm} : ((swp (x :: L) 0 L.length).take L.length).Perm L ∧ (swp (x :: L) 0 L.length).length = L.length + 1 := by
  have hlen : (swp (x :: L) 0 L.length).length = L.length + 1 := (swp_perm (by simp) (by simp)).length_eq.trans (by simp)
  refine ⟨?_, hlen⟩
  have hlast : (swp (x :: L) 0 L.length)[L.length]? = some x := by
    unfold swp
    rw [show (x :: L)[0]? = some x from rfl, List.getElem?_eq_getElem (show L.length < (x :: L).length by simp)]
    simp
  have h1 : (swp (x :: L) 0 L.length).take L.length ++ [x] = swp (x :: L) 0 L.length := by
    have := List.take_add_one (l := swp (x :: L) 0 L.length) (i := L.length)
    rw [hlast, List.take_of_length_le (by omega)] at this
    exact this.symm
  have h2 : (x :: (swp (x :: L) 0 L.length).take L.length).Perm (x :: L) := by
    refine (List.perm_append_singleton x _).symm.trans ?_
    rw [h1]
    exact swp_perm (by simp) (by simp)
  exact h2.cons_inv
theorem flR_take : ∀ (L : List Itm) (k : Nat), flR Itm.cs (L.take k) = (flR Itm.cs L).take (k * 4)
  | [], k => by simp [flR]
  | x :: r, 0 => by simp [flR]
  | x :: r, k + 1 => by
    have ih := flR_take r k
    have e : (k + 1) * 4 = k * 4 + 4 := by omega
    rw [List.take_succ_cons, e]
    show Itm.cs x ++ flR Itm.cs (r.take k) = (Itm.cs x ++ flR Itm.cs r).take (k * 4 + 4)
    rw [ih, List.take_append, List.take_of_length_le (l := x.cs) (by rw [Itm.cs_len]; omega), Itm.cs_len, Nat.add_sub_cancel]
/-- the queue with its row cut -/
theorem QI.cut {w : World} {q g n cap : Nat} {L : List Itm} {cnt : Int} (h : QI w q g n cap L cnt) {k : Nat} (hk : k ≤ n) : QI (w.setCell ⟨q, 1, none⟩ (.slice (some ⟨g, 0, none⟩) k cap)) q g k cap (L.take k) cnt ∧ Kp (fun b => b = q) w (w.setCell ⟨q, 1, none⟩ (.slice (some ⟨g, 0, none⟩) k cap)) := by
  have hqg := h.glt.1
  refine ⟨⟨h.b.set_ 1 _, ?_, by rw [List.length_take, h.l]; omega⟩, (Kp.refl _ _).set (S := fun b => b = q) rfl _⟩
  have ho : w.ownsRow (q + 1) 121 4 (.slice (some ⟨g, 0, none⟩) k cap) k (flR Itm.cs (L.take k)) := by
    rw [flR_take]
    refine ⟨by rw [List.length_take, h.o.1]; omega, ?_⟩
    rcases h.o.2 with ⟨h1, _⟩ | ⟨g', cap', cur, h1, h2, h3, h4, h5, h6, h7⟩
    · cases h1
    · injection h1 with e1 _ e3
      injection e1 with e1
      injection e1 with e1
      subst e1
      subst e3
      refine .inr ⟨g, cap, cur, rfl, h2, h3, by omega, h5, h6, ?_⟩
      rw [← h7, List.take_take, Nat.min_eq_left (by omega)]
  exact own_far ho _ _ (by show some g ≠ some q; intro e; injection e; omega)

set_option maxRecDepth 100000 in
set_option maxHeartbeats 1600000 in
theorem pop_some {w : World} {q g n cap : Nat} {x : Itm} {L : List Itm} {cnt : Int} (h : QI w q g n cap (x :: L) cnt) (hn : n ≤ 4398046511104) :
    Calls Try.prog 39 #[.pointer (some ⟨q, 0, none⟩)] w fun e w' => e = .returned (.tuple #[.agg #[.int .i64 x.v, .int .i64 x.s, .int .i64 x.m], .bool true]) ∧ ∃ L', QI w' q g L.length cap L' cnt ∧ L'.Perm L ∧ Kp (fun b => b = q ∨ b = g) w w' := by
  obtain ⟨m, hm⟩ : ∃ m, L.length = m := ⟨_, rfl⟩
  have hnm : n = m + 1 := by rw [← h.l, ← hm]; rfl
  subst hnm
  rw [hm]
  have HM := Lib.hid hm
  have hcap := h.len.2
  have zq := h.qlt
  have zg := h.glt.2
  have zqg := h.glt.1
  have hb0 : Below w.heap.size w (w.alloc (.cells #[.int .i64 0, .int .i64 0, .int .i64 0] 93)) := by go_grown
  have HQ0 := Lib.hid (h.up hb0)
  have HK := Lib.hid (Blk.new w 93 #[.int .i64 0, .int .i64 0, .int .i64 0])
  have HB0 := Lib.hid hb0
  have hmm : m ≤ 4398046511104 := by omega
  clear h hb0 hm hn
  obtain ⟨xv, xs, xm, xk⟩ := x
  simp only
  go_enter Try.func39, Try.ntmps39
  go_wp2_with (first
    | (go_at_call 56; refine (peek_some HQ0.out).mono ?_; rintro e w1 ⟨rfl, hb1⟩; have hb2 : Below w1.heap.size w1 (w1.alloc (.cells #[.int .i64 xv, .int .i64 xs, .int .i64 xm] 93)) := by go_grown
       have hq1 := (HQ0.out.up hb1).up hb2
       have p1 := hq1.b.cell 1
       simp at p1
       have HQ1 := Lib.hid hq1
       have HK1 := Lib.hid ((HK.out.grow hb1).grow hb2)
       have HX1 := Lib.hid (Blk.new w1 93 #[.int .i64 xv, .int .i64 xs, .int .i64 xm])
       have z1 := HQ1.out.qlt
       have z2 := hb1.size
       have z3 : w.heap.size < w1.heap.size := by have := (HK.out.grow hb1).lt; exact this
       have HB1 := Lib.hid (bthen (bthen HB0.out hb1 HB0.out.size) hb2 (by have := HB0.out.size; simp at this z2; omega))
       clear hb1 hb2 hq1)
    | (go_at_call 55; refine (swap_any HQ1.out (i := 0) (k := m) (by omega) (by omega)).mono ?_; rintro e w2 ⟨rfl, hq2, hk2⟩
       clear p1
       have p1 := hq2.b.cell 1
       simp at p1
       have HQ2 := Lib.hid hq2
       have HK2 := Lib.hid (hk2.blk HK1.out (by omega))
       have HX2 := Lib.hid (hk2.blk HX1.out (by omega))
       have HKP := Lib.hid ((Kp.of HB1.out).trans hk2)
       clear hq2 hk2)
    | fail)
  have hcl := run_clear_item HQ2.out (i := m) (by omega) 0 (cap - m)
  rw [hcl]
  clear hcl
  obtain ⟨hq4, hk4⟩ := HQ2.out.put (i := m) (by omega) ⟨0, 0, 0, 0⟩
  have h5 := hq4.cut (k := m) (by omega)
  obtain ⟨w4, hw4⟩ : ∃ w4, putI w2 g m ⟨0, 0, 0, 0⟩ = w4 := ⟨_, rfl⟩
  rw [hw4] at hq4 hk4 h5 ⊢
  clear hw4 p1
  have p1 := hq4.b.cell 1
  have f1 := hq4.b.frozen 1
  simp at p1 f1
  obtain ⟨hq5, hk5⟩ := h5
  have HQ5 := Lib.hid hq5
  have HK5 := Lib.hid ((HKP.out.trans hk4).mono (S' := fun b => b = q ∨ b = g) (fun b e => .inr e))
  have HK6 := Lib.hid (HK5.out.trans (hk5.mono (S' := fun b => b = q ∨ b = g) (fun b e => .inl e)))
  have HK3 := Lib.hid (hk5.blk (hk4.blk HK2.out (by omega)) (by omega))
  have HX3 := Lib.hid (hk5.blk (hk4.blk HX2.out (by omega)) (by omega))
  have HP := Lib.hid (show (((swp (⟨xv, xs, xm, xk⟩ :: L) 0 m).set m ⟨0, 0, 0, 0⟩).take m).Perm L by
    rw [List.take_set_of_le (Nat.le_refl _), ← HM.out]
    exact perm_swap_last.1)
  clear hq4 hk4 hq5 hk5
  go_wp2_with (first
    | (go_at_call 57; refine (sink_any HQ5.out hmm).mono ?_; rintro e w6 ⟨rfl, hm6⟩
       obtain ⟨L', hq6, hp6, hk6⟩ := hm6
       have HQ6 := Lib.hid hq6
       have HP6 := Lib.hid hp6
       have HK7 := Lib.hid (HK6.out.trans (hk6.mono (S' := fun b => b = q ∨ b = g) (fun b e => .inr e)))
       have HK4 := Lib.hid (hk6.blk HK3.out (by omega))
       have hx4 := hk6.blk HX3.out (by omega)
       have e0 := hx4.cell 0
       have e1 := hx4.cell 1
       have e2 := hx4.cell 2
       have f0 := HK4.out.frozen 0
       have f1 := HK4.out.frozen 1
       have f2 := HK4.out.frozen 2
       have c0 := HK4.out.cell 0
       have c1 := HK4.out.cell 1
       have c2 := HK4.out.cell 2
       simp at e0 e1 e2 c0 c1 c2
       clear hq6 hp6 hk6 hx4)
    | fail)
  have K := ((HK4.out.set_ 0 (.int .i64 xv)).set_ 1 (.int .i64 xs)).set_ 2 (.int .i64 xm)
  have d0 := K.cell 0
  have d1 := K.cell 1
  have d2 := K.cell 2
  simp at d0 d1 d2
  refine bodyPost_ret (v := .tuple #[.agg #[.int .i64 xv, .int .i64 xs, .int .i64 xm], .bool true]) (by simp [results, Try.results39, go_sem, d0, d1, d2]) rfl ⟨rfl, L', ?_, HP6.out.trans HP.out, ?_⟩
  · have hqr : q ≠ w.heap.size := by omega
    have hgr : w.heap.size ≠ g := by omega
    exact ⟨((HQ6.out.b.far (by show q ≠ w.heap.size; exact hqr) _).far (by show q ≠ w.heap.size; exact hqr) _).far (by show q ≠ w.heap.size; exact hqr) _, own_far (own_far (own_far HQ6.out.o _ _ (by show some g ≠ some w.heap.size; intro e; injection e; omega)) _ _ (by show some g ≠ some w.heap.size; intro e; injection e; omega)) _ _ (by show some g ≠ some w.heap.size; intro e; injection e; omega), HQ6.out.l⟩
  · refine Kp.out (S' := fun b => (b = q ∨ b = g) ∨ b = w.heap.size) ?_ (fun b hb hl => hb.resolve_right (by omega))
    exact (((HK7.out.mono (fun b e => .inl e)).set (.inr rfl) _).set (.inr rfl) _).set (.inr rfl) _
end Go.Proofs.Ytmoakdplhfgipaa
