/- The row of legs in memory; the state of spread's loops. -/
import Derived.Test.YtmoakdplhfgipaaLegP
import Derived.Test.YtmoakdplhfgipaaQueH
import Derived.Laws.MakeOwn
import Derived.Lib.QuietBelow
import Derived.BigQuiet
namespace Go.Proofs.Ytmoakdplhfgipaa
set_option maxRecDepth 20000
open Go.RowKit Go.Maps

/-- the row of legs in block b -/
def OutB (w : World) (b : Nat) (out : List Lg) : Prop := Blk w b 50 (flR Lg.cs out).toArray
theorem Lg.cs_len (x : Lg) : x.cs.length = 2 := rfl
theorem OutB.cell {w : World} {b : Nat} {out : List Lg} (h : OutB w b out) {i : Nat} {x : Lg} (hx : out[i]? = some x) : w.cell? ⟨b, i * 2, none⟩ = some (.int .i64 x.s) ∧ w.cell? ⟨b, i * 2 + 1, none⟩ = some (.int .i64 x.m) := by
  have hc : ∀ j u, (Lg.cs x)[j]? = some u → w.cell? ⟨b, i * 2 + j, none⟩ = some u := fun j u hu => by
    rw [Blk.cell h]
    have h2 := flat_at (f := Lg.cs) (s := 2) (fun _ => rfl) out i j x u hx hu
    unfold flR
    simpa using h2
  exact ⟨hc 0 _ rfl, hc 1 _ rfl⟩
theorem flL_set : ∀ (L : List Lg) (i : Nat) (x : Lg), ((flR Lg.cs L).set (i * 2) (.int .i64 x.s)).set (i * 2 + 1) (.int .i64 x.m) = flR Lg.cs (L.set i x)
  | [], i, x => by simp [flR]
  | y :: r, 0, x => by simp [flR, Lg.cs]
  | y :: r, i + 1, x => by
    have ih := flL_set r i x
    have e : (i + 1) * 2 = i * 2 + 2 := by omega
    have f : flR Lg.cs (y :: r) = .int .i64 y.s :: .int .i64 y.m :: flR Lg.cs r := by simp [flR, Lg.cs]
    rw [f, e]
    simp only [List.set_cons_succ, show i * 2 + 2 + 1 = (i * 2 + 1) + 2 by omega]
    rw [ih]
    simp [flR, Lg.cs]
/-- a leg stored -/
def putL (w : World) (b i : Nat) (x : Lg) : World := (w.setCell ⟨b, i * 2, none⟩ (.int .i64 x.s)).setCell ⟨b, i * 2 + 1, none⟩ (.int .i64 x.m)
theorem OutB.put {w : World} {b : Nat} {out : List Lg} (h : OutB w b out) (i : Nat) (x : Lg) : OutB (putL w b i x) b (out.set i x) := by
  have h1 := (Blk.set_ h (i * 2) (.int .i64 x.s)).set_ (i * 2 + 1) (.int .i64 x.m)
  unfold OutB
  rw [← flL_set]
  simpa [putL] using h1
theorem infoL : (Try.prog.info? 50).map (fun i => (i.zero, i.size, i.bytes)) = some (some (.agg #[.int .i64 0, .int .i64 0]), 2, 16) := by kernel_rfl
theorem run_make_legs (n : Nat) (hn : n ≤ 10) (w : World) :
    (Instr.makeSlice 40 (.int .i64 (n : Int)) (.int .i64 (n : Int))).run Try.prog w = .ok (.slice (some ⟨w.heap.size, 0, none⟩) n n) (w.alloc (.cells (flR Lg.cs (List.replicate n ⟨0, 0⟩)).toArray 50)) := by
  obtain ⟨i0, hi, hz0, hz1, hz2⟩ := info_parts infoL
  have hr := run_make (P := Try.prog) w 40 50 i0 _ Try.underlying40 hi hz0 .i64 .i64 (n : Int) (n : Int) (by omega) (by omega) (by rw [hz2]; omega) (by omega)
  have e : madeCells (Value.agg #[.int .i64 0, .int .i64 0]).cells (n * i0.size) = (flR Lg.cs (List.replicate n ⟨0, 0⟩)).toArray := by
    rw [hz1]
    have hall : ∀ u ∈ flR Lg.cs (List.replicate n ⟨0, 0⟩), u = Value.int .i64 0 := fun u hu => by
      unfold flR at hu
      obtain ⟨l, hl, hu⟩ := List.mem_flatten.1 hu
      obtain ⟨x, hx, rfl⟩ := List.mem_map.1 hl
      rw [List.eq_of_mem_replicate hx] at hu
      simpa [Lg.cs] using hu
    have hsz : (flR Lg.cs (List.replicate n ⟨0, 0⟩)).length = n * 2 := by
      rw [show flR Lg.cs (List.replicate n ⟨0, 0⟩) = ((List.replicate n (⟨0, 0⟩ : Lg)).map Lg.cs).flatten from rfl, List.length_flatten]
      simp [Lg.cs]
    apply Array.ext
    · rw [size_madeCells, List.size_toArray, hsz]
    · intro i h1 h2
      have e2 : ((flR Lg.cs (List.replicate n ⟨0, 0⟩)).toArray)[i] = Value.int .i64 0 := hall _ (by simp)
      rw [e2]
      simp only [madeCells, Array.getElem_map, Array.getElem_range]
      have : i % 2 = 0 ∨ i % 2 = 1 := by omega
      show (#[Value.int .i64 0, Value.int .i64 0] : Array Value)[i % 2]! = _
      rcases this with h | h <;> rw [h] <;> rfl
  simp only [Int.toNat_natCast] at hr
  rw [hr, e]
/-- the state of spread's loops -/
structure SM (w wr : World) (A : Option Addr) (N nE cE q : Nat) (out : List Lg) (L : List Itm) (g n cap : Nat) (cnt : Int) : Prop where
  rd : Blk wr w.heap.size 24 #[.int .i64 (N : Int), .slice A nE cE]
  o : OutB wr (w.heap.size + 1) out
  qi : QI wr q g n cap L cnt
  bl : Below w.heap.size w wr
  lt : w.heap.size + 1 < q
section
variable {w wr w' : World} {A : Option Addr} {N nE cE q : Nat} {out : List Lg} {L L' : List Itm} {g n cap g' n' cap' : Nat} {cnt cnt' : Int}
theorem SM.up (h : SM w wr A N nE cE q out L g n cap cnt) (hb : Below wr.heap.size wr w') : SM w w' A N nE cE q out L g n cap cnt :=
  ⟨h.rd.grow hb, Blk.grow h.o hb, h.qi.up hb, bthen h.bl hb h.bl.size, h.lt⟩
theorem SM.turn (h : SM w wr A N nE cE q out L g n cap cnt) (hq : QI w' q g' n' cap' L' cnt') (hk : Kp (fun b => b = q ∨ b = g) wr w') : SM w w' A N nE cE q out L' g' n' cap' cnt' := by
  have h1 := h.lt
  have h2 := h.qi.glt.1
  exact ⟨hk.blk h.rd (by omega), hk.blk h.o (by omega), hq, h.bl.trans (hk.below h.bl.size (fun b hb => by omega)), h1⟩
theorem SM.put (h : SM w wr A N nE cE q out L g n cap cnt) (i : Nat) (x : Lg) : SM w (putL wr (w.heap.size + 1) i x) A N nE cE q (out.set i x) L g n cap cnt := by
  have h1 := h.lt
  have h2 := h.qi.glt.1
  refine ⟨?_, h.o.put i x, ⟨?_, ?_, h.qi.l⟩, ?_, h1⟩
  · exact (h.rd.far (by show w.heap.size ≠ w.heap.size + 1; omega) _).far (by show w.heap.size ≠ w.heap.size + 1; omega) _
  · exact (h.qi.b.far (by show q ≠ w.heap.size + 1; omega) _).far (by show q ≠ w.heap.size + 1; omega) _
  · exact own_far (own_far h.qi.o _ _ (by show some g ≠ some (w.heap.size + 1); intro e; injection e; omega)) _ _ (by show some g ≠ some (w.heap.size + 1); intro e; injection e; omega)
  · exact below_set (below_set h.bl (by show w.heap.size ≤ w.heap.size + 1; omega) _) (by show w.heap.size ≤ w.heap.size + 1; omega) _
end
/-- the state of the outer loop, at most kk steps to come -/
def OI (w wr : World) (A : Option Addr) (N nE cE q : Nat) (E : List Edg) (a : Int) (kk : Nat) : Prop := ∃ out L g n cap cnt, SM w wr A N nE cE q out L g n cap cnt ∧ LI N E a out L (fun _ => False) ∧ L.length + Phi out ≤ maxQ ∧ 2 * Phi out + L.length ≤ kk
/-- the state of the inner loop -/
def II (w wr : World) (A : Option Addr) (N nE cE q : Nat) (E : List Edg) (a : Int) (kk sb : Nat) (v s m : Int) (j : Nat) : Prop := ∃ out L g n cap cnt, SM w wr A N nE cE q out L g n cap cnt ∧ LI N E a out L (fun n => n = v) ∧ L.length + Phi out ≤ maxQ ∧ 2 * Phi out + L.length < kk ∧ ato out v = ⟨s, m⟩ ∧ (∀ x ∈ E.take j, x.f = v → Rlx out x) ∧ Blk wr sb 93 #[.int .i64 v, .int .i64 s, .int .i64 m] ∧ sb ≠ g ∧ q < sb
section
variable {w wr w' : World} {A : Option Addr} {N nE cE q : Nat} {E : List Edg} {a : Int}
theorem OI.start {out : List Lg} {L : List Itm} {g n cap : Nat} {cnt : Int} (h1 : SM w wr A N nE cE q out L g n cap cnt) (h2 : LI N E a out L (fun _ => False)) (h3 : L.length + Phi out ≤ maxQ) : OI w wr A N nE cE q E a (2 * maxQ) := ⟨out, L, g, n, cap, cnt, h1, h2, h3, by omega⟩
theorem II.up {kk sb : Nat} {v s m : Int} {j : Nat} (h : II w wr A N nE cE q E a kk sb v s m j) (hb : Below wr.heap.size wr w') : II w w' A N nE cE q E a kk sb v s m j := by
  obtain ⟨out, L, g, n, cap, cnt, h1, h2, h3, h4, h5, h6, h7, h8, h9⟩ := h
  exact ⟨out, L, g, n, cap, cnt, h1.up hb, h2, h3, h4, h5, h6, h7.grow hb, h8, h9⟩
end
theorem better_q {b : Bool} {w : World} {s m s' m' : Int} (hb : betB s m s' m' = b) (d : Nat) (os : Array Obj) : Calls Try.prog 37 #[.agg #[.int .i64 s, .int .i64 m], .agg #[.int .i64 s', .int .i64 m']] (Go.Sort.grow (redrawn w d) os) fun e w'' => e = .returned (.bool b) ∧ ∃ p : Regrown, w'' = Go.Sort.grow (redrawn w p.d) p.os := by
  rw [← hb]; exact Calls.regrown_of (better_any _ _ _ _ _)
end Go.Proofs.Ytmoakdplhfgipaa
