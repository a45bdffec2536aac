/- The arguments of chapter 21 in memory: containers, schedules with their moves, fills, demands; and as they came in. -/
import Derived.Test.YtpeidgfaejnhiaaOpenS
import Derived.Test.YtpeidgfaejnhiaaNest
import Derived.Test.YtpeidgfaejnhiaaDemP
namespace Go.Proofs.Ytpeidgfaejnhiaa
open Go.ChangeShapes Go.WideShapes Go.ChangeAt Go.RowKit Go.Deep

theorem wf_i64 {x : Int} (h : (Lit.int .i64 x).wf = true) : i64ok x := by
  have h0 : IntKind.i64.min = -9223372036854775808 := rfl
  have h1 : IntKind.i64.max = 9223372036854775807 := rfl
  have := h
  simp [Lit.wf, h0, h1] at this
  exact this
theorem i64_wf {x : Int} (h : i64ok x) : (Lit.int .i64 x).wf = true := by
  have h0 : IntKind.i64.min = -9223372036854775808 := rfl
  have h1 : IntKind.i64.max = 9223372036854775807 := rfl
  simp [Lit.wf, h0, h1]
  exact h

def conOk (x : Con) : Prop := x.id.size ≤ maxLen ∧ i64ok x.kind ∧ i64ok x.lit ∧ i64ok x.gr ∧ i64ok x.node
def mvOk (p : Int × Int) : Prop := i64ok p.1 ∧ i64ok p.2
/-- a schedule in memory -/
def SchIn (w : World) (x : Sch) : Prop := RdT w (· < w.heap.size) 2 mvC x.A x.n x.mv ∧ x.n ≤ maxLen ∧ (∀ p ∈ x.mv, mvOk p)
theorem SchIn.up {w w' : World} {x : Sch} (h : SchIn w x) (hb : Below w.heap.size w w') : SchIn w' x := ⟨h.1.up hb, h.2⟩
theorem SchIn.len {w : World} {x : Sch} (h : SchIn w x) : x.mv.length = x.n := h.1.1
def filOk (x : Fil) : Prop := i64ok x.con ∧ i64ok x.lo ∧ i64ok x.hi
def demOk (x : Dem) : Prop := i64ok x.con ∧ i64ok x.node ∧ i64ok x.kind ∧ i64ok x.gr ∧ i64ok x.from_ ∧ i64ok x.to_ ∧ i64ok x.serv

/-- the three lists of a task -/
structure Tri where
  AC : Option Addr
  nC : Nat
  cC : Nat
  C : List Con
  AS : Option Addr
  nS : Nat
  cS : Nat
  S : List Sch
  AF : Option Addr
  nF : Nat
  cF : Nat
  F : List Fil
structure Tri.In (w : World) (T : Tri) : Prop where
  c : RdT w (· < w.heap.size) 5 Con.cs T.AC T.nC T.C
  cn : T.nC ≤ maxLen
  cok : ∀ x ∈ T.C, conOk x
  s : RdT w (· < w.heap.size) 4 Sch.cs T.AS T.nS T.S
  sn : T.nS ≤ maxLen
  sok : ∀ x ∈ T.S, SchIn w x
  f : RdT w (· < w.heap.size) 3 Fil.cs T.AF T.nF T.F
  fn : T.nF ≤ maxLen
  ccap : T.nC ≤ T.cC
  scap : T.nS ≤ T.cS
  fcap : T.nF ≤ T.cF
theorem Tri.In.up {w w' : World} {T : Tri} (h : T.In w) (hb : Below w.heap.size w w') : T.In w' :=
  ⟨h.c.up hb, h.cn, h.cok, h.s.up hb, h.sn, fun x hx => (h.sok x hx).up hb, h.f.up hb, h.fn, h.ccap, h.scap, h.fcap⟩
theorem Tri.In.csz {w : World} {T : Tri} (h : T.In w) : ∀ x ∈ T.C, x.id.size ≤ maxLen := fun x hx => (h.cok x hx).1
abbrev Tri.ts (T : Tri) (day level : Int) : Array Value := #[.slice T.AC T.nC T.cC, .slice T.AS T.nS T.cS, .slice T.AF T.nF T.cF, .int .i64 day, .int .i64 level]
abbrev Tri.xs (T : Tri) (day level f t s : Int) : Array Value := #[.slice T.AC T.nC T.cC, .slice T.AS T.nS T.cS, .slice T.AF T.nF T.cF, .int .i64 day, .int .i64 level, .int .i64 f, .int .i64 t, .int .i64 s]

def IsCase (W : World) (v : Value) : Prop := ∃ (T : Tri) (day level f t s : Int), v = .agg (T.xs day level f t s) ∧ T.In W ∧ i64ok day ∧ i64ok level ∧ i64ok f ∧ i64ok t ∧ i64ok s
def IsDems (W : World) (v : Value) : Prop := ∃ A n c L, v = .slice A n c ∧ RdT W (· < W.heap.size) 7 Dem.cs A n L ∧ n ≤ maxLen ∧ n ≤ c

section
variable {H : Type} {enc : TypeId × Value → H} {base b0 : Nat} {v : Value} {d : DataW H} {p : List MemPlace} {r : Reach} {W : World}
theorem leaf_cons (h : Leaf enc Try.prog W 0 (fun _ => true) true 22 v) : ∃ A n c L, v = .slice A n c ∧ RdT W (· < W.heap.size) 5 Con.cs A n L ∧ n ≤ maxLen ∧ n ≤ c ∧ ∀ x ∈ L, conOk x :=
  rows_of_leaf (k := 4) (ls := [9, 3, 3, 3, 3]) Try.underlying22 (by kernel_rfl) (by kernel_rfl) (by decide) Con.cs conOk (fun _ => rfl) (fun us hus hl => by
    match us, hus with
    | [u0, u1, u2, u3, u4], _ =>
      obtain ⟨x0, e0, f0⟩ := hl 0 _ rfl
      obtain ⟨x1, e1, f1⟩ := hl 1 _ rfl
      obtain ⟨x2, e2, f2⟩ := hl 2 _ rfl
      obtain ⟨x3, e3, f3⟩ := hl 3 _ rfl
      obtain ⟨x4, e4, f4⟩ := hl 4 _ rfl
      simp at e0 e1 e2 e3 e4
      subst e0; subst e1; subst e2; subst e3; subst e4
      obtain ⟨y0, rfl, g0⟩ := f0.str Try.underlying9
      obtain ⟨y1, rfl, g1⟩ := f1.int Try.underlying3
      obtain ⟨y2, rfl, g2⟩ := f2.int Try.underlying3
      obtain ⟨y3, rfl, g3⟩ := f3.int Try.underlying3
      obtain ⟨y4, rfl, g4⟩ := f4.int Try.underlying3
      exact ⟨⟨y0, y1, y2, y3, y4⟩, rfl, g0, wf_i64 g1, wf_i64 g2, wf_i64 g3, wf_i64 g4⟩) h
theorem leaf_moves (h : Leaf enc Try.prog W 0 (fun _ => true) true 43 v) : ∃ A n c L, v = .slice A n c ∧ RdT W (· < W.heap.size) 2 mvC A n L ∧ n ≤ maxLen ∧ n ≤ c ∧ ∀ x ∈ L, mvOk x :=
  rows_of_leaf (k := 4) (ls := [3, 3]) Try.underlying43 (by kernel_rfl) (by kernel_rfl) (by decide) mvC mvOk (fun _ => rfl) (fun us hus hl => by
    match us, hus with
    | [u0, u1], _ =>
      obtain ⟨x0, e0, f0⟩ := hl 0 _ rfl
      obtain ⟨x1, e1, f1⟩ := hl 1 _ rfl
      simp at e0 e1
      subst e0; subst e1
      obtain ⟨y0, rfl, g0⟩ := f0.int Try.underlying3
      obtain ⟨y1, rfl, g1⟩ := f1.int Try.underlying3
      exact ⟨⟨y0, y1⟩, rfl, wf_i64 g0, wf_i64 g1⟩) h
theorem leaf_schs (h : Leaf enc Try.prog W 0 (fun _ => true) true 23 v) : ∃ A n c L, v = .slice A n c ∧ RdT W (· < W.heap.size) 4 Sch.cs A n L ∧ n ≤ maxLen ∧ n ≤ c ∧ ∀ x ∈ L, SchIn W x :=
  rows_of_leaf (k := 4) (ls := [3, 3, 3, 43]) Try.underlying23 (by kernel_rfl) (by kernel_rfl) (by decide) Sch.cs (SchIn W) (fun _ => rfl) (fun us hus hl => by
    match us, hus with
    | [u0, u1, u2, u3], _ =>
      obtain ⟨x0, e0, f0⟩ := hl 0 _ rfl
      obtain ⟨x1, e1, f1⟩ := hl 1 _ rfl
      obtain ⟨x2, e2, f2⟩ := hl 2 _ rfl
      obtain ⟨x3, e3, f3⟩ := hl 3 _ rfl
      simp at e0 e1 e2 e3
      subst e0; subst e1; subst e2; subst e3
      obtain ⟨y0, rfl, g0⟩ := f0.int Try.underlying3
      obtain ⟨y1, rfl, g1⟩ := f1.int Try.underlying3
      obtain ⟨y2, rfl, g2⟩ := f2.int Try.underlying3
      obtain ⟨A, n, c, L, rfl, hr, hn, _, hok⟩ := leaf_moves f3
      exact ⟨⟨y0, y1, y2, A, n, c, L⟩, rfl, hr, hn, hok⟩) h
theorem leaf_fils (h : Leaf enc Try.prog W 0 (fun _ => true) true 24 v) : ∃ A n c L, v = .slice A n c ∧ RdT W (· < W.heap.size) 3 Fil.cs A n L ∧ n ≤ maxLen ∧ n ≤ c ∧ ∀ x ∈ L, filOk x :=
  rows_of_leaf (k := 4) (ls := [3, 3, 3]) Try.underlying24 (by kernel_rfl) (by kernel_rfl) (by decide) Fil.cs filOk (fun _ => rfl) (fun us hus hl => by
    match us, hus with
    | [u0, u1, u2], _ =>
      obtain ⟨x0, e0, f0⟩ := hl 0 _ rfl
      obtain ⟨x1, e1, f1⟩ := hl 1 _ rfl
      obtain ⟨x2, e2, f2⟩ := hl 2 _ rfl
      simp at e0 e1 e2
      subst e0; subst e1; subst e2
      obtain ⟨y0, rfl, g0⟩ := f0.int Try.underlying3
      obtain ⟨y1, rfl, g1⟩ := f1.int Try.underlying3
      obtain ⟨y2, rfl, g2⟩ := f2.int Try.underlying3
      exact ⟨⟨y0, y1, y2⟩, rfl, wf_i64 g0, wf_i64 g1, wf_i64 g2⟩) h
theorem open_case (W : World) (hv : Value.okWide Try.prog W r b0 28 v) (h : DataW.Trod enc Try.prog W 0 (fun _ => true) true 28 v d p) : IsCase W v := by
  obtain ⟨cs, rfl, hsz, hl⟩ := open_agg (k := 4) (ls := [22, 23, 24, 3, 3, 3, 3, 3]) Try.underlying28 (by kernel_rfl) (by kernel_rfl) hv h
  obtain ⟨l⟩ := cs
  match l, hsz with
  | [u0, u1, u2, u3, u4, u5, u6, u7], _ =>
    obtain ⟨x0, e0, f0⟩ := hl 0 _ rfl
    obtain ⟨x1, e1, f1⟩ := hl 1 _ rfl
    obtain ⟨x2, e2, f2⟩ := hl 2 _ rfl
    obtain ⟨x3, e3, f3⟩ := hl 3 _ rfl
    obtain ⟨x4, e4, f4⟩ := hl 4 _ rfl
    obtain ⟨x5, e5, f5⟩ := hl 5 _ rfl
    obtain ⟨x6, e6, f6⟩ := hl 6 _ rfl
    obtain ⟨x7, e7, f7⟩ := hl 7 _ rfl
    simp at e0 e1 e2 e3 e4 e5 e6 e7
    subst e0; subst e1; subst e2; subst e3; subst e4; subst e5; subst e6; subst e7
    obtain ⟨A0, n0, c0, L0, rfl, hr0, hn0, hc0, ho0⟩ := leaf_cons f0
    obtain ⟨A1, n1, c1, L1, rfl, hr1, hn1, hc1, ho1⟩ := leaf_schs f1
    obtain ⟨A2, n2, c2, L2, rfl, hr2, hn2, hc2, ho2⟩ := leaf_fils f2
    obtain ⟨y3, rfl, g3⟩ := f3.int Try.underlying3
    obtain ⟨y4, rfl, g4⟩ := f4.int Try.underlying3
    obtain ⟨y5, rfl, g5⟩ := f5.int Try.underlying3
    obtain ⟨y6, rfl, g6⟩ := f6.int Try.underlying3
    obtain ⟨y7, rfl, g7⟩ := f7.int Try.underlying3
    exact ⟨⟨A0, n0, c0, L0, A1, n1, c1, L1, A2, n2, c2, L2⟩, y3, y4, y5, y6, y7, rfl, ⟨hr0, hn0, ho0, hr1, hn1, ho1, hr2, hn2, hc0, hc1, hc2⟩, wf_i64 g3, wf_i64 g4, wf_i64 g5, wf_i64 g6, wf_i64 g7⟩
end
end Go.Proofs.Ytpeidgfaejnhiaa
