/- Struct arguments opened, by value. -/
import Derived.Test.YtpeidgfaejnhiaaOpen
import Derived.Test.YtpeidgfaejnhiaaFlat
namespace Go.Proofs.Ytpeidgfaejnhiaa
open Go.ChangeShapes Go.WideShapes Go.ChangeAt Go.RowKit Go.Deep

def IsInt4 (v : Value) : Prop := ∃ a b c d : Int, v = .agg #[.int .i64 a, .int .i64 b, .int .i64 c, .int .i64 d] ∧ (Lit.int .i64 a).wf = true ∧ (Lit.int .i64 b).wf = true ∧ (Lit.int .i64 c).wf = true ∧ (Lit.int .i64 d).wf = true
def IsInt2 (k : IntKind) (v : Value) : Prop := ∃ a b : Int, v = .agg #[.int k a, .int k b] ∧ (Lit.int k a).wf = true ∧ (Lit.int k b).wf = true
def IsCont (v : Value) : Prop := ∃ (s : ByteArray) (a b c d : Int), v = .agg #[.string s, .int .i64 a, .int .i64 b, .int .i64 c, .int .i64 d] ∧ s.size ≤ maxLen ∧ (Lit.int .i64 a).wf = true ∧ (Lit.int .i64 b).wf = true ∧ (Lit.int .i64 c).wf = true ∧ (Lit.int .i64 d).wf = true

section
variable {H : Type} {enc : TypeId × Value → H} {base b0 : Nat} {v : Value} {d : DataW H} {p : List MemPlace} {r : Reach}
theorem open_span (W : World) (hv : Value.okWide Try.prog W r b0 51 v) (h : DataW.Trod enc Try.prog W 0 (fun _ => true) true 51 v d p) : IsInt2 .i64 v := by
  obtain ⟨cs, rfl, hsz, hl⟩ := open_agg (k := 4) (ls := [3, 3]) Try.underlying51 (by kernel_rfl) (by kernel_rfl) hv h
  obtain ⟨l⟩ := cs
  match l, hsz with
  | [u0, u1], _ =>
    obtain ⟨x0, e0, f0⟩ := hl 0 _ rfl
    simp at e0
    subst e0
    obtain ⟨y0, rfl, g0⟩ := f0.int Try.underlying3
    obtain ⟨x1, e1, f1⟩ := hl 1 _ rfl
    simp at e1
    subst e1
    obtain ⟨y1, rfl, g1⟩ := f1.int Try.underlying3
    exact ⟨y0, y1, rfl, g0, g1⟩
theorem open_cont (W : World) (hv : Value.okWide Try.prog W r b0 49 v) (h : DataW.Trod enc Try.prog W 0 (fun _ => true) true 49 v d p) : IsCont v := by
  obtain ⟨cs, rfl, hsz, hl⟩ := open_agg (k := 4) (ls := [9, 3, 3, 3, 3]) Try.underlying49 (by kernel_rfl) (by kernel_rfl) hv h
  obtain ⟨l⟩ := cs
  match l, hsz with
  | [u0, u1, u2, u3, u4], _ =>
    obtain ⟨x0, e0, f0⟩ := hl 0 _ rfl
    simp at e0
    subst e0
    obtain ⟨y0, rfl, g0⟩ := f0.str Try.underlying9
    obtain ⟨x1, e1, f1⟩ := hl 1 _ rfl
    simp at e1
    subst e1
    obtain ⟨y1, rfl, g1⟩ := f1.int Try.underlying3
    obtain ⟨x2, e2, f2⟩ := hl 2 _ rfl
    simp at e2
    subst e2
    obtain ⟨y2, rfl, g2⟩ := f2.int Try.underlying3
    obtain ⟨x3, e3, f3⟩ := hl 3 _ rfl
    simp at e3
    subst e3
    obtain ⟨y3, rfl, g3⟩ := f3.int Try.underlying3
    obtain ⟨x4, e4, f4⟩ := hl 4 _ rfl
    simp at e4
    subst e4
    obtain ⟨y4, rfl, g4⟩ := f4.int Try.underlying3
    exact ⟨y0, y1, y2, y3, y4, rfl, g0, g1, g2, g3, g4⟩
end
end Go.Proofs.Ytpeidgfaejnhiaa
