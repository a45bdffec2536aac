/- A slice of containers that came in, opened. -/
import Derived.Test.YtabldmoifkgchaaOpenS
import Derived.Test.YtabldmoifkgchaaConP
namespace Go.Proofs.Ytabldmoifkgchaa
open Go.ChangeShapes Go.WideShapes Go.ChangeAt Go.RowKit Go.Deep

def conOk (x : Con) : Prop := x.id.size ≤ maxLen ∧ (Lit.int .i64 x.kind).wf = true ∧ (Lit.int .i64 x.lit).wf = true ∧ (Lit.int .i64 x.gr).wf = true ∧ (Lit.int .i64 x.node).wf = true
def IsCons (W : World) (v : Value) : Prop := ∃ A n c L, v = .slice A n c ∧ RdT W (· < W.heap.size) 5 Con.cs A n L ∧ n ≤ maxLen ∧ n ≤ c ∧ ∀ x ∈ L, conOk x
section
variable {H : Type} {enc : TypeId × Value → H} {base b0 : Nat} {v : Value} {d : DataW H} {p : List MemPlace} {r : Reach}
theorem open_conts (W : World) (hv : Value.okWide Try.prog W r b0 22 v) (h : DataW.Trod enc Try.prog W 0 (fun _ => true) true 22 v d p) : IsCons W v :=
  open_rows (k := 4) (ls := [9, 3, 3, 3, 3]) Try.underlying22 (by kernel_rfl) (by kernel_rfl) (by decide) Con.cs conOk (fun _ => rfl) (fun us hus hl => by
    match us, hus with
    | [u0, u1, u2, u3, u4], _ =>
      obtain ⟨x0, e0, f0⟩ := hl 0 _ rfl
      obtain ⟨x1, e1, f1⟩ := hl 1 _ rfl
      obtain ⟨x2, e2, f2⟩ := hl 2 _ rfl
      obtain ⟨x3, e3, f3⟩ := hl 3 _ rfl
      obtain ⟨x4, e4, f4⟩ := hl 4 _ rfl
      simp at e0 e1 e2 e3 e4
      subst e0; subst e1; subst e2; subst e3; subst e4
      obtain ⟨y0, rfl, g0⟩ := f0.str Try.underlying9
      obtain ⟨y1, rfl, g1⟩ := f1.int Try.underlying3
      obtain ⟨y2, rfl, g2⟩ := f2.int Try.underlying3
      obtain ⟨y3, rfl, g3⟩ := f3.int Try.underlying3
      obtain ⟨y4, rfl, g4⟩ := f4.int Try.underlying3
      exact ⟨⟨y0, y1, y2, y3, y4⟩, rfl, g0, g1, g2, g3, g4⟩) hv h
end
end Go.Proofs.Ytabldmoifkgchaa
