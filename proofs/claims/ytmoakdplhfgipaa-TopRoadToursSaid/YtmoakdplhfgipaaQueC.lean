/- The queue of spread in memory: swap. -/
import Derived.Test.YtmoakdplhfgipaaQueB
import Derived.BigRegion
namespace Go.Proofs.Ytmoakdplhfgipaa
set_option maxRecDepth 20000
open Go.RowKit Go.Maps

/-- old blocks but those of a set are as they were -/
structure Kp (S : Nat → Prop) (w w' : World) : Prop where
  os : w'.os = w.os
  tape : w'.tape = w.tape
  output : w'.output = w.output
  size : w.heap.size ≤ w'.heap.size
  block : ∀ b, b < w.heap.size → ¬ S b → w'.heap[b]? = w.heap[b]?
section
variable {S : Nat → Prop} {w w1 w2 : World}
theorem Kp.refl (S : Nat → Prop) (w : World) : Kp S w w := ⟨rfl, rfl, rfl, Nat.le_refl _, fun _ _ _ => rfl⟩
theorem Kp.of (h : Below w.heap.size w w1) : Kp S w w1 := ⟨h.os, h.tape, h.output, h.size, fun b hb _ => h.block b hb⟩
theorem Kp.trans (h : Kp S w w1) (h2 : Kp S w1 w2) : Kp S w w2 := ⟨h2.os.trans h.os, h2.tape.trans h.tape, h2.output.trans h.output, Nat.le_trans h.size h2.size, fun b hb hs => (h2.block b (Nat.lt_of_lt_of_le hb h.size) hs).trans (h.block b hb hs)⟩
theorem Kp.then (h : Kp S w w1) (h2 : Below w1.heap.size w1 w2) : Kp S w w2 := h.trans (Kp.of h2)
theorem Kp.set (h : Kp S w w1) {p : Addr} (hp : S p.block) (u : Value) : Kp S w (w1.setCell p u) := ⟨h.os, h.tape, h.output, by simpa [World.setCell] using h.size, fun b hb hs => (Below.heap_setCell w1 p u b (fun e => hs (by rw [e]; exact hp))).trans (h.block b hb hs)⟩
theorem Kp.mono {S' : Nat → Prop} (h : Kp S w w1) (hs : ∀ b, S b → S' b) : Kp S' w w1 := ⟨h.os, h.tape, h.output, h.size, fun b hb hn => h.block b hb fun e => hn (hs b e)⟩
theorem Kp.below (h : Kp S w w1) {B : Nat} (hB : B ≤ w.heap.size) (hs : ∀ b, S b → B ≤ b) : Below B w w1 := ⟨h.os, h.tape, h.output, h.size, fun b hb => h.block b (by omega) fun e => by have := hs b e; omega⟩
theorem Kp.blk (h : Kp S w w1) {g : Nat} {t : TypeId} {cs : Array Value} (k : Blk w g t cs) (hg : ¬ S g) : Blk w1 g t cs := k.keep (h.block g k.lt hg)
theorem Kp.out {S' : Nat → Prop} (h : Kp S' w w1) (hs : ∀ b, S' b → b < w.heap.size → S b) : Kp S w w1 := ⟨h.os, h.tape, h.output, h.size, fun b hb hn => h.block b hb fun e => hn (hs b e hb)⟩
end

/-- an item stored -/
def putI (w : World) (g i : Nat) (x : Itm) : World := (((w.setCell ⟨g, i * 4, none⟩ (.int .i64 x.v)).setCell ⟨g, i * 4 + 1, none⟩ (.int .i64 x.s)).setCell ⟨g, i * 4 + 2, none⟩ (.int .i64 x.m)).setCell ⟨g, i * 4 + 3, none⟩ (.int .i64 x.k)
theorem flR_set : ∀ (L : List Itm) (i : Nat) (x : Itm), ((((flR Itm.cs L).set (i * 4) (.int .i64 x.v)).set (i * 4 + 1) (.int .i64 x.s)).set (i * 4 + 2) (.int .i64 x.m)).set (i * 4 + 3) (.int .i64 x.k) = if i < L.length then flR Itm.cs (L.set i x) else flR Itm.cs L
  | [], i, x => by simp [flR]
  | y :: r, 0, x => by simp [flR, Itm.cs]
  | y :: r, i + 1, x => by
    have ih := flR_set r i x
    have e : (i + 1) * 4 = i * 4 + 4 := by omega
    have f : flR Itm.cs (y :: r) = .int .i64 y.v :: .int .i64 y.s :: .int .i64 y.m :: .int .i64 y.k :: flR Itm.cs r := by simp [flR, Itm.cs]
    rw [f, e]
    simp only [List.set_cons_succ, show i * 4 + 4 + 1 = (i * 4 + 1) + 4 by omega, show i * 4 + 4 + 2 = (i * 4 + 2) + 4 by omega, show i * 4 + 4 + 3 = (i * 4 + 3) + 4 by omega]
    rw [ih]
    by_cases h : i < r.length
    · rw [if_pos h, if_pos (by simp; omega)]
      simp [flR, Itm.cs]
    · rw [if_neg h, if_neg (by simp; omega)]
section
variable {w : World} {q g n cap : Nat} {L : List Itm} {cnt : Int}
theorem QI.put (h : QI w q g n cap L cnt) {i : Nat} (hi : i < n) (x : Itm) : QI (putI w g i x) q g n cap (L.set i x) cnt ∧ Kp (fun b => b = g) w (putI w g i x) := by
  have hqg := h.glt.1
  refine ⟨⟨?_, ?_, by rw [List.length_set]; exact h.l⟩, ?_⟩
  · exact (((h.b.far (by show q ≠ g; omega) _).far (by show q ≠ g; omega) _).far (by show q ≠ g; omega) _).far (by show q ≠ g; omega) _
  · have h1 := ((((h.o.stored (i * 4) (.int .i64 x.v)).1.stored (i * 4 + 1) (.int .i64 x.s)).1.stored (i * 4 + 2) (.int .i64 x.m)).1.stored (i * 4 + 3) (.int .i64 x.k)).1
    rw [flR_set, if_pos (by rw [h.l]; exact hi)] at h1
    exact h1
  · unfold putI
    refine Kp.set (S := fun b => b = g) ?_ (by rfl) _
    refine Kp.set (S := fun b => b = g) ?_ (by rfl) _
    refine Kp.set (S := fun b => b = g) ?_ (by rfl) _
    refine Kp.set (S := fun b => b = g) ?_ (by rfl) _
    exact Kp.refl _ _
end
/-- two items exchanged -/
def swp (L : List Itm) (i k : Nat) : List Itm := match L[i]?, L[k]? with
  | some x, some y => (L.set i y).set k x
  | _, _ => L
set_option maxRecDepth 100000 in
set_option maxHeartbeats 3200000 in
theorem swap_any {w : World} {q g n cap : Nat} {L : List Itm} {cnt : Int} (h : QI w q g n cap L cnt) {i k : Nat} (hi : i < n) (hk : k < n) :
    Calls Try.prog 55 #[.pointer (some ⟨q, 0, none⟩), .int .i64 (i : Nat), .int .i64 (k : Nat)] w fun e w' => e = .returned (.tuple #[]) ∧ QI w' q g n cap (swp L i k) cnt ∧ Kp (fun b => b = g) w w' := by
  obtain ⟨⟨av, a_s, am, ak⟩, hx⟩ := at_lt (l := L) (k := i) (by rw [h.l]; exact hi)
  obtain ⟨⟨bv, bs, bm, bk⟩, hy⟩ := at_lt (l := L) (k := k) (by rw [h.l]; exact hk)
  have HQ := Lib.hid h
  have HX := Lib.hid hx
  have HY := Lib.hid hy
  have zq := h.qlt
  have zg := h.glt.2
  have zqg := h.glt.1
  have zn := h.len.1
  unfold maxLen at zn
  have p1 := h.b.cell 1
  simp at p1
  obtain ⟨p2, p3, p4, p5⟩ := h.cell hx
  obtain ⟨p6, p7, p8, p9⟩ := h.cell hy
  simp only at p2 p3 p4 p5 p6 p7 p8 p9
  have f2 := h.frozen (i * 4)
  have f3 := h.frozen (i * 4 + 1)
  have f4 := h.frozen (i * 4 + 2)
  have f5 := h.frozen (i * 4 + 3)
  have f6 := h.frozen (k * 4)
  have f7 := h.frozen (k * 4 + 1)
  have f8 := h.frozen (k * 4 + 2)
  have f9 := h.frozen (k * 4 + 3)
  clear h hx hy
  have HSW : Hid (swp L i k = (L.set i ⟨bv, bs, bm, bk⟩).set k ⟨av, a_s, am, ak⟩) := Lib.hid (by unfold swp; rw [HX.out, HY.out])
  have HF : Hid (QI (putI (putI w g i ⟨bv, bs, bm, bk⟩) g k ⟨av, a_s, am, ak⟩).drew q g n cap ((L.set i ⟨bv, bs, bm, bk⟩).set k ⟨av, a_s, am, ak⟩) cnt ∧ Kp (fun b => b = g) w (putI (putI w g i ⟨bv, bs, bm, bk⟩) g k ⟨av, a_s, am, ak⟩).drew) := Lib.hid (by
    obtain ⟨h1, g1⟩ := HQ.out.put hi ⟨bv, bs, bm, bk⟩
    obtain ⟨h2, g2⟩ := h1.put hk ⟨av, a_s, am, ak⟩
    exact ⟨h2.up ((Below.refl _ _).drew), (g1.trans g2).then ((Below.refl _ _).drew)⟩)
  by_cases hik : i = k
  · subst hik
    obtain ⟨rfl, rfl, rfl, rfl⟩ : av = bv ∧ a_s = bs ∧ am = bm ∧ ak = bk := by
      have := HX.out.symm.trans HY.out
      simpa using this
    clear p6 p7 p8 p9 f6 f7 f8 f9
    go_enter Try.func55, Try.ntmps55
    go_wp2_with fail
    have hqg : q ≠ g := by omega
    go_region
    all_goals (refine bodyPost_end (results_none rfl _ _ _) rfl ⟨rfl, ?_⟩)
    all_goals (rw [HSW.out]; exact HF.out)
  · go_enter Try.func55, Try.ntmps55
    go_wp2_with fail
    have hqg : q ≠ g := by omega
    go_region
    all_goals (refine bodyPost_end (results_none rfl _ _ _) rfl ⟨rfl, ?_⟩)
    all_goals (rw [HSW.out]; exact HF.out)
end Go.Proofs.Ytmoakdplhfgipaa
