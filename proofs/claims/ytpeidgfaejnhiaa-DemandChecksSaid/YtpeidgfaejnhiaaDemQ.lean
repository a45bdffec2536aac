/- Demands that came in, opened. -/
import Derived.Test.YtpeidgfaejnhiaaDemO
namespace Go.Proofs.Ytpeidgfaejnhiaa
open Go.ChangeShapes Go.WideShapes Go.ChangeAt Go.RowKit Go.Deep

section
variable {H : Type} {enc : TypeId × Value → H} {base b0 : Nat} {v : Value} {d : DataW H} {p : List MemPlace} {r : Reach} {W : World}
theorem open_dems (W : World) (hv : Value.okWide Try.prog W r b0 31 v) (h : DataW.Trod enc Try.prog W 0 (fun _ => true) true 31 v d p) : IsDems W v := by
  obtain ⟨A, n, c, L, e, hr, hn, hc, _⟩ := open_rows (k := 5) (ls := [3, 3, 3, 3, 3, 3, 3]) Try.underlying31 (by kernel_rfl) (by kernel_rfl) (by decide) Dem.cs demOk (fun _ => rfl) (fun us hus hl => by
    match us, hus with
    | [u0, u1, u2, u3, u4, u5, u6], _ =>
      obtain ⟨x0, e0, f0⟩ := hl 0 _ rfl
      obtain ⟨x1, e1, f1⟩ := hl 1 _ rfl
      obtain ⟨x2, e2, f2⟩ := hl 2 _ rfl
      obtain ⟨x3, e3, f3⟩ := hl 3 _ rfl
      obtain ⟨x4, e4, f4⟩ := hl 4 _ rfl
      obtain ⟨x5, e5, f5⟩ := hl 5 _ rfl
      obtain ⟨x6, e6, f6⟩ := hl 6 _ rfl
      simp at e0 e1 e2 e3 e4 e5 e6
      subst e0; subst e1; subst e2; subst e3; subst e4; subst e5; subst e6
      obtain ⟨y0, rfl, g0⟩ := f0.int Try.underlying3
      obtain ⟨y1, rfl, g1⟩ := f1.int Try.underlying3
      obtain ⟨y2, rfl, g2⟩ := f2.int Try.underlying3
      obtain ⟨y3, rfl, g3⟩ := f3.int Try.underlying3
      obtain ⟨y4, rfl, g4⟩ := f4.int Try.underlying3
      obtain ⟨y5, rfl, g5⟩ := f5.int Try.underlying3
      obtain ⟨y6, rfl, g6⟩ := f6.int Try.underlying3
      exact ⟨⟨y0, y1, y2, y3, y4, y5, y6⟩, rfl, wf_i64 g0, wf_i64 g1, wf_i64 g2, wf_i64 g3, wf_i64 g4, wf_i64 g5, wf_i64 g6⟩) hv h
  exact ⟨A, n, c, L, e, hr, hn, hc⟩
end
end Go.Proofs.Ytpeidgfaejnhiaa
