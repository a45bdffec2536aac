/- Tours: travel. Tours: the walk in memory; the contract of leg. -/
import Derived.Test.YtmoakdplhfgipaaMapL
import Derived.BigRegion
import Derived.Lib.QuietBelow
import Derived.BigQuiet
namespace Go.Proofs.Ytmoakdplhfgipaa
set_option maxRecDepth 20000
open Go.RowKit Go.Maps

set_option maxRecDepth 100000 in
set_option maxHeartbeats 1600000 in
theorem travel_any {w : World} {wb : Nat} {n t l m : Int} {c4 c5 c6 c7 c8 c9 c10 c11 c12 c13 c14 c15 c16 c17 : Value}
    (h : Blk w wb 67 #[.int .i64 n, .int .i64 t, .int .i64 l, .int .i64 m, c4, c5, c6, c7, c8, c9, c10, c11, c12, c13, c14, c15, c16, c17]) (to_ s d : Int)
    (h1 : 0 ≤ t) (h2 : t ≤ 1000000000000) (h3 : 0 ≤ m) (h4 : m ≤ 1000000000000) (h5 : 0 ≤ s) (h6 : s ≤ 1000000000000) (h7 : 0 ≤ d) (h8 : d ≤ 1000000000000) :
    Calls Try.prog 52 #[.pointer (some ⟨wb, 0, none⟩), .int .i64 to_, .agg #[.int .i64 s, .int .i64 d]] w fun e w' => e = .returned (.tuple #[]) ∧ Blk w' wb 67 #[.int .i64 to_, .int .i64 (t + s), .int .i64 l, .int .i64 (m + d), c4, c5, c6, c7, c8, c9, c10, c11, c12, c13, c14, c15, c16, c17] ∧ Kp (fun b => b = wb) w w' := by
  have hw1 : IntKind.i64.wrap (t + s) = t + s := IntWalk.i64_in _ (by omega)
  have hw2 : IntKind.i64.wrap (m + d) = m + d := IntWalk.i64_in _ (by omega)
  obtain ⟨w0, hw0⟩ : ∃ w0, w.alloc (.cells #[.int .i64 s, .int .i64 d] 50) = w0 := ⟨_, rfl⟩
  have kb : Blk w0 w.heap.size 50 #[.int .i64 s, .int .i64 d] := by rw [← hw0]; exact Blk.new _ _ _
  have hb0 : Below w.heap.size w w0 := by rw [← hw0]; go_grown
  have k0 := h.grow hb0
  have hlt := h.lt
  have hne : w.heap.size ≠ wb := by omega
  have K0 := Lib.hid k0
  have HB0 := Lib.hid hb0
  have KB := Lib.hid kb
  have a0 := k0.cell 0
  have a1 := k0.cell 1
  have a3 := k0.cell 3
  have f0 := k0.frozen 0
  have f1 := k0.frozen 1
  have f3 := k0.frozen 3
  have b0 := kb.cell 0
  have b1 := kb.cell 1
  simp at a0 a1 a3 b0 b1
  clear h kb k0 hb0
  go_enter Try.func52, Try.ntmps52
  go_wp2_with fail
  have k1 := K0.out.set_ 0 (.int .i64 to_)
  have HP1 := Lib.hid ((Kp.of (S := fun b => b = wb) HB0.out).set (p := ⟨wb, 0, none⟩) rfl (.int .i64 to_))
  have kb1 := KB.out.far (p := ⟨wb, 0, none⟩) (by show w.heap.size ≠ wb; exact hne) (.int .i64 to_)
  obtain ⟨w1, hw1'⟩ : ∃ w1, w0.setCell ⟨wb, 0, none⟩ (.int .i64 to_) = w1 := ⟨_, rfl⟩
  rw [hw1'] at k1 HP1 kb1 ⊢
  clear hw1' hw0 a0 a1 a3 f0 f1 f3 b0 b1
  have K1 := Lib.hid k1
  have KB1 := Lib.hid kb1
  have a1 := k1.cell 1
  have a3 := k1.cell 3
  have f1 := k1.frozen 1
  have f3 := k1.frozen 3
  have b0 := kb1.cell 0
  have b1 := kb1.cell 1
  simp at a1 a3 b0 b1
  clear k1 kb1
  go_region
  all_goals (go_wp2_with fail)
  all_goals go_region
  all_goals (refine bodyPost_end (results_none rfl _ _ _) rfl ⟨rfl, ?_, ?_⟩)
  all_goals first
    | exact ((HP1.out.then ((Below.refl _ _).drew)).set (p := ⟨wb, 1, none⟩) rfl _).then ((Below.refl _ _).drew) |>.set (p := ⟨wb, 3, none⟩) rfl _
    | exact (((K1.out.grow ((Below.refl _ _).drew)).set_ 1 (.int .i64 (t + s))).grow ((Below.refl _ _).drew)).set_ 3 (.int .i64 (m + d))

/-- where a vehicle is, when, with which load, behind how many meters -/
structure Plc where
  n : Int
  t : Int
  l : Int
  m : Int
structure Vis where
  s : Int
  n : Int
  a : Int
  b : Int
  e : Int
  l : Int
def Vis.cs (x : Vis) : List Value := [.int .i64 x.s, .int .i64 x.n, .int .i64 x.a, .int .i64 x.b, .int .i64 x.e, .int .i64 x.l]
/-- what a walk holds all along -/
structure WPar where
  N : Nat
  AE : Option Addr
  nE : Nat
  cE : Nat
  E : List Edg
  AV : Option Addr
  nV : Nat
  cV : Nat
  V : List Veh
  AD : Option Addr
  nD : Nat
  cD : Nat
  D : List Dem
  un : Int
  us : Int
  v : Veh
abbrev WA (p : Plc) (X : WPar) (mb : Nat) (row : Value) : Array Value := #[.int .i64 p.n, .int .i64 p.t, .int .i64 p.l, .int .i64 p.m, .int .i64 (X.N : Int), .slice X.AE X.nE X.cE, .slice X.AV X.nV X.cV, .slice X.AD X.nD X.cD, .int .i64 X.un, .int .i64 X.us, .string X.v.id, .int .i64 X.v.depot, .int .i64 X.v.from_, .int .i64 X.v.to_, .int .i64 X.v.gr, .int .i64 X.v.kinds, .map (some mb), row]
structure TS (w0 w : World) (X : WPar) (wb mb : Nat) (p : Plc) (row : Value) (vs : List Vis) (f : Int → Option Value) (nm : Nat) : Prop where
  blk : Blk w wb 67 (WA p X mb row)
  map : Ml w mb nm f
  own : w.ownsRow w0.heap.size 48 6 row vs.length (flR Vis.cs vs)
  legs : ∀ k v, f k = some v → ∃ b, v = .slice (some ⟨b, 0, none⟩) X.N X.N ∧ OutB w b (legsOf X.N X.E k) ∧ IsLegs X.N X.E k (legsOf X.N X.E k) ∧ w0.heap.size ≤ b
  prb : PIn w0 X.AE X.nE X.E X.AV X.nV X.V X.AD X.nD X.cD X.D
  bel : Below w0.heap.size w0 w
  wlo : w0.heap.size ≤ wb
  mlo : w0.heap.size ≤ mb
/-- some walk in memory -/
def TSx (w0 w : World) (X : WPar) (wb : Nat) (p : Plc) (vs : List Vis) (nm : Nat) : Prop := ∃ mb row f, TS w0 w X wb mb p row vs f nm
section
variable {w0 w w' : World} {X : WPar} {wb mb : Nat} {p p' : Plc} {row : Value} {vs : List Vis} {f : Int → Option Value} {nm : Nat}
theorem map_at (h : Ml w mb nm f) : ∃ es clock, w.heap[mb]? = some (.map es clock) := by
  obtain ⟨D, ⟨es, clock, h1, h2⟩, hD⟩ := h
  exact ⟨es, clock, h1⟩
theorem TS.w_m (h : TS w0 w X wb mb p row vs f nm) : wb ≠ mb := by
  intro e
  obtain ⟨es, clock, h1⟩ := map_at h.map
  have h2 := h.blk
  unfold Blk at h2
  rw [e, h1] at h2
  cases h2
theorem own_type {base s n : Nat} {e t : TypeId} {v : Value} {xs : List Value} {g : Nat} {cs : Array Value} (h : w.ownsRow base e s v n xs) (hb : Blk w g t cs) (ht : e ≠ t) : v.ownBlock ≠ some g := by
  intro e'
  rcases h.2 with ⟨rfl, _⟩ | ⟨g', cap, cur, rfl, h1, h2, _⟩
  · cases e'
  · injection e' with e'
    subst e'
    unfold Blk at hb
    rw [h2] at hb
    injection hb with hb
    injection hb with _ h3
    exact ht h3
theorem own_map {base s n : Nat} {e : TypeId} {v : Value} {xs : List Value} (h : w.ownsRow base e s v n xs) (hm : Ml w mb nm f) : v.ownBlock ≠ some mb := by
  intro e'
  obtain ⟨es, clock, hmm⟩ := map_at hm
  rcases h.2 with ⟨rfl, _⟩ | ⟨g', cap, cur, rfl, h1, h2, _⟩
  · cases e'
  · injection e' with e'
    subst e'
    rw [hmm] at h2
    cases h2
theorem blk_map {g : Nat} {t : TypeId} {cs : Array Value} (hb : Blk w g t cs) (hm : Ml w mb nm f) : g ≠ mb := by
  intro e
  obtain ⟨es, clock, h1⟩ := map_at hm
  unfold Blk at hb
  rw [e, h1] at hb
  cases hb
theorem TS.up (h : TS w0 w X wb mb p row vs f nm) (hb : Below w.heap.size w w') : TS w0 w' X wb mb p row vs f nm :=
  ⟨h.blk.grow hb, h.map.below hb, own_keepR h.own hb, fun k v hk => by
    obtain ⟨b, e, ho, hi, hl⟩ := h.legs k v hk
    exact ⟨b, e, Blk.grow ho hb, hi, hl⟩, h.prb, bthen h.bel hb h.bel.size, h.wlo, h.mlo⟩
theorem TS.place (h : TS w0 w X wb mb p row vs f nm) (hb : Blk w' wb 67 (WA p' X mb row)) (hk : Kp (fun b => b = wb) w w') : TS w0 w' X wb mb p' row vs f nm := by
  have hm : Ml w' mb nm f := by
    obtain ⟨D, ⟨es, clock, h1, h2⟩, hD⟩ := h.map
    exact ⟨D, ⟨es, clock, (hk.block mb h.map.lt (fun e => h.w_m e.symm)).trans h1, h2⟩, hD⟩
  refine ⟨hb, hm, ?_, fun k v hkv => ?_, h.prb, h.bel.trans (hk.below h.bel.size (fun b hb => by rw [hb]; exact h.wlo)), h.wlo, h.mlo⟩
  · exact h.own.kept (row := some wb) ⟨hk.os, hk.tape, hk.output, hk.size, fun i hi hne => hk.block i hi (fun e => hne (by rw [e]))⟩ (.inr (own_type h.own h.blk (by decide)))
  · obtain ⟨b, e, ho, hi, hl⟩ := h.legs k v hkv
    exact ⟨b, e, hk.blk ho (fun e => Blk.ne_ ho h.blk (by decide) e), hi, hl⟩
theorem TS.stored {k : Int} {b : Nat} (h : TS w0 w X wb mb p row vs f nm) (hm : Ml w' mb (nm + 1) (updV f k (.slice (some ⟨b, 0, none⟩) X.N X.N))) (hg : w.grownBy w' (some mb)) (ho : OutB w b (legsOf X.N X.E k)) (hi : IsLegs X.N X.E k (legsOf X.N X.E k)) (hl : w0.heap.size ≤ b) : TS w0 w' X wb mb p row vs (updV f k (.slice (some ⟨b, 0, none⟩) X.N X.N)) (nm + 1) := by
  refine ⟨h.blk.keep (hg.block _ h.blk.lt (fun e => by injection e with e; exact h.w_m e)), hm, h.own.kept hg (.inr (own_map h.own h.map)), fun j v hj => ?_, h.prb, h.bel.grown hg h.bel.size (fun j e => by injection e with e; rw [← e]; exact h.mlo), h.wlo, h.mlo⟩
  unfold updV at hj
  by_cases e : j = k
  · subst e
    rw [if_pos rfl] at hj
    injection hj with hj
    exact ⟨b, hj.symm, Blk.keep ho (hg.block _ (Blk.lt ho) (fun e => by injection e with e; exact blk_map ho h.map e)), hi, hl⟩
  · rw [if_neg e] at hj
    obtain ⟨b', e', ho', hi', hl'⟩ := h.legs j v hj
    exact ⟨b', e', Blk.keep ho' (hg.block _ (Blk.lt ho') (fun e => by injection e with e; exact blk_map ho' h.map e)), hi', hl'⟩
theorem TS.side (h : TS w0 w X wb mb p row vs f nm) {rb : Nat} (hk : Kp (fun b => b = rb) w w') (h0 : w0.heap.size ≤ rb) (h1 : rb ≠ wb) (h2 : rb ≠ mb) (h3 : row.ownBlock ≠ some rb) (h4 : ∀ k b n m, f k = some (.slice (some ⟨b, 0, none⟩) n m) → b ≠ rb) : TS w0 w' X wb mb p row vs f nm := by
  have hm : Ml w' mb nm f := by
    obtain ⟨D, ⟨es, clock, e1, e2⟩, hD⟩ := h.map
    exact ⟨D, ⟨es, clock, (hk.block mb h.map.lt (fun e => h2 e.symm)).trans e1, e2⟩, hD⟩
  refine ⟨hk.blk h.blk (fun e => h1 e.symm), hm, ?_, fun k v hkv => ?_, h.prb, h.bel.trans (hk.below h.bel.size (fun b hb => by rw [hb]; exact h0)), h.wlo, h.mlo⟩
  · exact h.own.kept (row := some rb) ⟨hk.os, hk.tape, hk.output, hk.size, fun i hi hne => hk.block i hi (fun e => hne (by rw [e]))⟩ (.inr h3)
  · obtain ⟨b, rfl, ho, hi, hl⟩ := h.legs k v hkv
    exact ⟨b, rfl, hk.blk ho (fun e => h4 k b _ _ hkv e), hi, hl⟩
end
end Go.Proofs.Ytmoakdplhfgipaa
