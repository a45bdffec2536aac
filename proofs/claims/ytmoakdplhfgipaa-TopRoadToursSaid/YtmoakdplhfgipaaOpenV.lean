/- Vehicles and lists of integers that came in, opened. -/
import Derived.Test.YtmoakdplhfgipaaOpenS
import Derived.Test.YtmoakdplhfgipaaVehF
namespace Go.Proofs.Ytmoakdplhfgipaa
set_option maxRecDepth 20000
open Go.ChangeShapes Go.WideShapes Go.ChangeAt Go.RowKit Go.Deep

theorem wf_i64 {x : Int} (h : (Lit.int .i64 x).wf = true) : i64ok x := by
  have h0 : IntKind.i64.min = -9223372036854775808 := rfl
  have h1 : IntKind.i64.max = 9223372036854775807 := rfl
  have := h
  simp [Lit.wf, h0, h1] at this
  exact this
def vehOk (x : Veh) : Prop := x.id.size ≤ maxLen ∧ i64ok x.depot ∧ i64ok x.from_ ∧ i64ok x.to_ ∧ i64ok x.gr ∧ i64ok x.kinds
def IsVehs (W : World) (v : Value) : Prop := ∃ A n c L, v = .slice A n c ∧ RdT W (· < W.heap.size) 6 Veh.cs A n L ∧ n ≤ maxLen ∧ n ≤ c ∧ ∀ x ∈ L, vehOk x
def IsVeh (v : Value) : Prop := ∃ x : Veh, v = .agg x.vs ∧ vehOk x
def IsInts (W : World) (v : Value) : Prop := ∃ A n c l, v = .slice A n c ∧ RdS W (· < W.heap.size) A n (zs l) ∧ n ≤ maxLen ∧ n ≤ c ∧ ∀ x ∈ l, i64ok x
section
variable {H : Type} {enc : TypeId × Value → H} {base b0 : Nat} {v : Value} {d : DataW H} {p : List MemPlace} {r : Reach}
theorem open_vehs (W : World) (hv : Value.okWide Try.prog W r b0 25 v) (h : DataW.Trod enc Try.prog W 0 (fun _ => true) true 25 v d p) : IsVehs W v :=
  open_rows (k := 4) (ls := [9, 3, 3, 3, 3, 3]) Try.underlying25 (by kernel_rfl) (by kernel_rfl) (by decide) Veh.cs vehOk (fun _ => rfl) (fun us hus hl => by
    match us, hus with
    | [u0, u1, u2, u3, u4, u5], _ =>
      obtain ⟨x0, e0, f0⟩ := hl 0 _ rfl
      obtain ⟨x1, e1, f1⟩ := hl 1 _ rfl
      obtain ⟨x2, e2, f2⟩ := hl 2 _ rfl
      obtain ⟨x3, e3, f3⟩ := hl 3 _ rfl
      obtain ⟨x4, e4, f4⟩ := hl 4 _ rfl
      obtain ⟨x5, e5, f5⟩ := hl 5 _ rfl
      simp at e0 e1 e2 e3 e4 e5
      subst e0; subst e1; subst e2; subst e3; subst e4; subst e5
      obtain ⟨y0, rfl, g0⟩ := f0.str Try.underlying9
      obtain ⟨y1, rfl, g1⟩ := f1.int Try.underlying3
      obtain ⟨y2, rfl, g2⟩ := f2.int Try.underlying3
      obtain ⟨y3, rfl, g3⟩ := f3.int Try.underlying3
      obtain ⟨y4, rfl, g4⟩ := f4.int Try.underlying3
      obtain ⟨y5, rfl, g5⟩ := f5.int Try.underlying3
      exact ⟨⟨y0, y1, y2, y3, y4, y5⟩, rfl, g0, wf_i64 g1, wf_i64 g2, wf_i64 g3, wf_i64 g4, wf_i64 g5⟩) hv h
theorem open_veh (W : World) (hv : Value.okWide Try.prog W r b0 46 v) (h : DataW.Trod enc Try.prog W 0 (fun _ => true) true 46 v d p) : IsVeh v := by
  obtain ⟨cs, rfl, hsz, hl⟩ := open_agg (k := 4) (ls := [9, 3, 3, 3, 3, 3]) Try.underlying46 (by kernel_rfl) (by kernel_rfl) hv h
  obtain ⟨l⟩ := cs
  match l, hsz with
  | [u0, u1, u2, u3, u4, u5], _ =>
    obtain ⟨x0, e0, f0⟩ := hl 0 _ rfl
    obtain ⟨x1, e1, f1⟩ := hl 1 _ rfl
    obtain ⟨x2, e2, f2⟩ := hl 2 _ rfl
    obtain ⟨x3, e3, f3⟩ := hl 3 _ rfl
    obtain ⟨x4, e4, f4⟩ := hl 4 _ rfl
    obtain ⟨x5, e5, f5⟩ := hl 5 _ rfl
    simp at e0 e1 e2 e3 e4 e5
    subst e0; subst e1; subst e2; subst e3; subst e4; subst e5
    obtain ⟨y0, rfl, g0⟩ := f0.str Try.underlying9
    obtain ⟨y1, rfl, g1⟩ := f1.int Try.underlying3
    obtain ⟨y2, rfl, g2⟩ := f2.int Try.underlying3
    obtain ⟨y3, rfl, g3⟩ := f3.int Try.underlying3
    obtain ⟨y4, rfl, g4⟩ := f4.int Try.underlying3
    obtain ⟨y5, rfl, g5⟩ := f5.int Try.underlying3
    exact ⟨⟨y0, y1, y2, y3, y4, y5⟩, rfl, g0, wf_i64 g1, wf_i64 g2, wf_i64 g3, wf_i64 g4, wf_i64 g5⟩
theorem open_ints (W : World) (hv : Value.okWide Try.prog W r b0 29 v) (h : DataW.Trod enc Try.prog W 0 (fun _ => true) true 29 v d p) : IsInts W v := by
  obtain ⟨A, n, c, l, e, hr, hn, hc, hok⟩ := open_rows (k := 4) (ls := [3]) Try.underlying29 (by kernel_rfl) (by kernel_rfl) (by decide) (fun x : Int => [Value.int .i64 x]) i64ok (fun _ => rfl) (fun us hus hl => by
    match us, hus with
    | [u0], _ =>
      obtain ⟨x0, e0, f0⟩ := hl 0 _ rfl
      simp at e0
      subst e0
      obtain ⟨y0, rfl, g0⟩ := f0.int Try.underlying3
      exact ⟨y0, rfl, wf_i64 g0⟩) hv h
  refine ⟨A, n, c, l, e, ⟨by rw [zs_len]; exact hr.1, fun hp => ?_⟩, hn, hc, hok⟩
  obtain ⟨b, o, e2, hb, hcell⟩ := hr.2 hp
  refine ⟨b, o, e2, hb, fun j u hu => ?_⟩
  unfold zs at hu
  rw [List.getElem?_map] at hu
  obtain ⟨x, hx, rfl⟩ := Option.map_eq_some_iff.1 hu
  have := hcell j x hx 0 _ rfl
  simpa using this
end
end Go.Proofs.Ytmoakdplhfgipaa
