/- The queue of spread in memory: its items' row; contracts of before, swap. -/
import Derived.Test.YtmoakdplhfgipaaQueA
namespace Go.Proofs.Ytmoakdplhfgipaa
set_option maxRecDepth 20000
open Go.RowKit Go.Maps

structure Itm where
  v : Int
  s : Int
  m : Int
  k : Int
def Itm.cs (x : Itm) : List Value := [.int .i64 x.v, .int .i64 x.s, .int .i64 x.m, .int .i64 x.k]
theorem Itm.cs_len (x : Itm) : x.cs.length = 4 := rfl
/-- the queue in block q, its row in block g -/
structure QI (w : World) (q g n cap : Nat) (L : List Itm) (cnt : Int) : Prop where
  b : Blk w q 119 #[.func (.func 36) #[] #[], .slice (some ⟨g, 0, none⟩) n cap, .int .i64 cnt]
  o : w.ownsRow (q + 1) 121 4 (.slice (some ⟨g, 0, none⟩) n cap) n (flR Itm.cs L)
  l : L.length = n
section
variable {w w' : World} {q g n cap : Nat} {L : List Itm} {cnt : Int}
theorem QI.cell (h : QI w q g n cap L cnt) {i : Nat} {x : Itm} (hx : L[i]? = some x) : w.cell? ⟨g, i * 4, none⟩ = some (.int .i64 x.v) ∧ w.cell? ⟨g, i * 4 + 1, none⟩ = some (.int .i64 x.s) ∧ w.cell? ⟨g, i * 4 + 2, none⟩ = some (.int .i64 x.m) ∧ w.cell? ⟨g, i * 4 + 3, none⟩ = some (.int .i64 x.k) := by
  have hi : i < n := by rw [← h.l]; exact (List.getElem?_eq_some_iff.1 hx).1
  have hc : ∀ j u, (Itm.cs x)[j]? = some u → w.cell? ⟨g, i * 4 + j, none⟩ = some u := fun j u hu => by
    have hj : j < 4 := by
      rcases Nat.lt_or_ge j 4 with h1 | h1
      · exact h1
      · rw [List.getElem?_eq_none (by rw [Itm.cs_len]; exact h1)] at hu; cases hu
    rw [h.o.cellAt _ (by omega)]
    exact flat_at (f := Itm.cs) (s := 4) (fun _ => rfl) L i j x u hx hu
  exact ⟨hc 0 _ rfl, hc 1 _ rfl, hc 2 _ rfl, hc 3 _ rfl⟩
theorem QI.frozen (h : QI w q g n cap L cnt) (j : Nat) : w.frozen? ⟨g, j, none⟩ = false := h.o.frozenAt j
theorem QI.up (h : QI w q g n cap L cnt) (hb : Below w.heap.size w w') : QI w' q g n cap L cnt := ⟨h.b.grow hb, own_keepR h.o hb, h.l⟩
theorem QI.glt (h : QI w q g n cap L cnt) : q < g ∧ g < w.heap.size := by
  have := h.o.lt g rfl
  omega
theorem QI.qlt (h : QI w q g n cap L cnt) : q < w.heap.size := h.b.lt
theorem QI.len (h : QI w q g n cap L cnt) : n ≤ maxLen ∧ n ≤ cap := by
  rcases h.o.2 with ⟨h1, _⟩ | ⟨g', cap', cur, h1, _, _, h2, h3, _⟩
  · cases h1
  · injection h1 with _ _ h4
    subst h4
    exact ⟨Nat.le_trans h2 h3, h2⟩
end

def SomeBool (e : Ending) : Prop := ∃ b, e = .returned (.bool b)
theorem someBool (b : Bool) : SomeBool (.returned (.bool b)) := ⟨b, rfl⟩
theorem less_q {b : Bool} {w : World} {x s m y s' m' : Int} (hb : (!(decide (s = s') && decide (m = m')) && betB s m s' m') = b) (d : Nat) (os : Array Obj) : Calls Try.prog 36 #[.agg #[.int .i64 x, .int .i64 s, .int .i64 m], .agg #[.int .i64 y, .int .i64 s', .int .i64 m']] (Go.Sort.grow (redrawn w d) os) fun e w'' => e = .returned (.bool b) ∧ ∃ p : Regrown, w'' = Go.Sort.grow (redrawn w p.d) p.os := by
  rw [← hb]; exact Calls.regrown_of (less_any _ _ _ _ _ _ _)
set_option maxRecDepth 100000 in
set_option maxHeartbeats 1600000 in
theorem before_any {w : World} {q g n cap : Nat} {L : List Itm} {cnt : Int} (h : QI w q g n cap L cnt) {i k : Nat} (hi : i < n) (hk : k < n) :
    Calls Try.prog 54 #[.pointer (some ⟨q, 0, none⟩), .int .i64 (i : Nat), .int .i64 (k : Nat)] w fun e w' => SomeBool e ∧ Below w.heap.size w w' := by
  obtain ⟨⟨av, a_s, am, ak⟩, hx⟩ := at_lt (l := L) (k := i) (by rw [h.l]; exact hi)
  obtain ⟨⟨bv, bs, bm, bk⟩, hy⟩ := at_lt (l := L) (k := k) (by rw [h.l]; exact hk)
  have HQ := Lib.hid h
  have HX := Lib.hid hx
  have HY := Lib.hid hy
  have zq := h.qlt
  have zg := h.glt.2
  have zn := h.len.1
  unfold maxLen at zn
  have hS : ∀ W, Below w.heap.size w W → W.cell? ⟨q, 0, none⟩ = some (.func (.func 36) #[] #[]) ∧ W.cell? ⟨q, 1, none⟩ = some (.slice (some ⟨g, 0, none⟩) n cap) ∧ W.cell? ⟨g, i * 4, none⟩ = some (.int .i64 av) ∧ W.cell? ⟨g, i * 4 + 1, none⟩ = some (.int .i64 a_s) ∧ W.cell? ⟨g, i * 4 + 2, none⟩ = some (.int .i64 am) ∧ W.cell? ⟨g, i * 4 + 3, none⟩ = some (.int .i64 ak) ∧ W.cell? ⟨g, k * 4, none⟩ = some (.int .i64 bv) ∧ W.cell? ⟨g, k * 4 + 1, none⟩ = some (.int .i64 bs) ∧ W.cell? ⟨g, k * 4 + 2, none⟩ = some (.int .i64 bm) ∧ W.cell? ⟨g, k * 4 + 3, none⟩ = some (.int .i64 bk) := fun W hW => by
    have hu := HQ.out.up hW
    obtain ⟨a1, a2, a3, a4⟩ := hu.cell HX.out
    obtain ⟨b1, b2, b3, b4⟩ := hu.cell HY.out
    exact ⟨hu.b.cell 0, hu.b.cell 1, a1, a2, a3, a4, b1, b2, b3, b4⟩
  have HS := Lib.hid hS
  obtain ⟨p0, p1, p2, p3, p4, p5, p6, p7, p8, p9⟩ := hS w (Below.refl _ _)
  clear h hx hy hS
  go_enter Try.func54, Try.ntmps54
  go_upto_region 1 with fail
  go_cut [7, 8] (fun s7 s8 W => ∃ a7 a8, s7 = .pointer (some ⟨a7, 0, none⟩) ∧ s8 = .pointer (some ⟨a8, 0, none⟩) ∧ Blk W a7 121 #[.int .i64 av, .int .i64 a_s, .int .i64 am, .int .i64 ak] ∧ Blk W a8 121 #[.int .i64 bv, .int .i64 bs, .int .i64 bm, .int .i64 bk] ∧ Below w.heap.size w W)
  case first =>
    have hd : w.drew.heap.size = w.heap.size := rfl
    go_region_held3 (fun W => W.cell? ⟨q, 0, none⟩ = some (.func (.func 36) #[] #[]) ∧ W.cell? ⟨q, 1, none⟩ = some (.slice (some ⟨g, 0, none⟩) n cap) ∧ W.cell? ⟨g, i * 4, none⟩ = some (.int .i64 av) ∧ W.cell? ⟨g, i * 4 + 1, none⟩ = some (.int .i64 a_s) ∧ W.cell? ⟨g, i * 4 + 2, none⟩ = some (.int .i64 am) ∧ W.cell? ⟨g, i * 4 + 3, none⟩ = some (.int .i64 ak) ∧ W.cell? ⟨g, k * 4, none⟩ = some (.int .i64 bv) ∧ W.cell? ⟨g, k * 4 + 1, none⟩ = some (.int .i64 bs) ∧ W.cell? ⟨g, k * 4 + 2, none⟩ = some (.int .i64 bm) ∧ W.cell? ⟨g, k * 4 + 3, none⟩ = some (.int .i64 bk))
      (exact HS.out _ (by go_grown)) (fail)
    all_goals (go_wp2_with fail; go_meet)
    all_goals first | exact ⟨_, _, rfl, rfl, ((Blk.new _ _ _).alloc _).keep rfl, (Blk.new_at _ _ _ (by simp)).keep rfl, by go_grown⟩ | exact ⟨_, _, rfl, rfl, (Blk.new_at _ _ _ (by simp)).keep rfl, ((Blk.new _ _ _).alloc _).keep rfl, by go_grown⟩
  case rest =>
    obtain ⟨a7, a8, rfl, rfl, k7, k8, hb⟩ := hcut
    have HB := Lib.hid hb
    have hq := HQ.out.up hb
    have r0 := cell_regrown (hq.b.cell 0)
    have r1 := cell_regrown (k7.cell 0)
    have r2 := cell_regrown (k7.cell 1)
    have r3 := cell_regrown (k7.cell 2)
    have r4 := cell_regrown (k7.cell 3)
    have r5 := cell_regrown (k8.cell 0)
    have r6 := cell_regrown (k8.cell 1)
    have r7 := cell_regrown (k8.cell 2)
    have r8 := cell_regrown (k8.cell 3)
    simp at r0 r1 r2 r3 r4 r5 r6 r7 r8
    have H7 := Lib.hid k7
    have H8 := Lib.hid k8
    have HQ2 := Lib.hid hq
    clear hq hb k7 k8 p0 p1 p2 p3 p4 p5 p6 p7 p8 p9
    obtain ⟨b1, hb1⟩ : ∃ b, (!(decide (a_s = bs) && decide (am = bm)) && betB a_s am bs bm) = b := ⟨_, rfl⟩
    have HB1 := Lib.hid hb1
    clear hb1
    go_upto_region 2 with fail
    refine wp_region_quiet_below (by kernel_rfl) (by kernel_rfl) ?_
    repeat (go_big_quiet_step (exact less_q HB1.out _ _))
    refine wpQuiet_nil ?_
    intro _ hw'
    obtain ⟨⟨dq, osq⟩, hw''⟩ := hw'
    subst hw''
    obtain ⟨w2, hw2⟩ : ∃ w2, Go.Sort.grow (redrawn wc dq) osq = w2 := ⟨_, rfl⟩
    have hbw : Below wc.heap.size wc w2 := by rw [← hw2]; exact below_regrown _ dq osq
    rw [hw2]
    clear hw2
    have HBW := Lib.hid (bthen HB.out hbw HB.out.size)
    cases b1
    · have hq := HQ2.out.up hbw
      have k7 := H7.out.grow hbw
      have k8 := H8.out.grow hbw
      clear r0 r1 r2 r3 r4 r5 r6 r7 r8
      have r0 := cell_regrown (hq.b.cell 0)
      have r1 := cell_regrown (k7.cell 0)
      have r2 := cell_regrown (k7.cell 1)
      have r3 := cell_regrown (k7.cell 2)
      have r4 := cell_regrown (k7.cell 3)
      have r5 := cell_regrown (k8.cell 0)
      have r6 := cell_regrown (k8.cell 1)
      have r7 := cell_regrown (k8.cell 2)
      have r8 := cell_regrown (k8.cell 3)
      simp at r0 r1 r2 r3 r4 r5 r6 r7 r8
      clear hq hbw k7 k8
      obtain ⟨b2, hb2⟩ : ∃ b, (!(decide (bs = a_s) && decide (bm = am)) && betB bs bm a_s am) = b := ⟨_, rfl⟩
      have HB2 := Lib.hid hb2
      clear hb2
      go_upto_region 4 with fail
      by_cases hlt : ak < bk
      · refine wp_region_quiet_below (by kernel_rfl) (by kernel_rfl) ?_
        repeat (go_big_quiet_step (exact less_q HB2.out _ _))
        refine wpQuiet_nil ?_
        intro _ hw'
        obtain ⟨⟨dr, osr⟩, hw''⟩ := hw'
        subst hw''
        go_wp2
        go_ret
        exact ⟨someBool _, bthen HBW.out (below_regrown _ dr osr) HBW.out.size⟩
      · have hd : decide (ak < bk) = false := decide_eq_false hlt
        refine wp_region_quiet_below (by kernel_rfl) (by kernel_rfl) ?_
        repeat (go_big_quiet_step (exact less_q HB2.out _ _))
        refine wpQuiet_nil ?_
        intro _ hw'
        obtain ⟨⟨dr, osr⟩, hw''⟩ := hw'
        subst hw''
        go_wp2
        go_ret
        exact ⟨someBool false, bthen HBW.out (below_regrown _ dr osr) HBW.out.size⟩
    · clear r0 r1 r2 r3 r4 r5 r6 r7 r8
      go_wp2
      go_ret
      exact ⟨someBool true, HBW.out⟩
end Go.Proofs.Ytmoakdplhfgipaa
