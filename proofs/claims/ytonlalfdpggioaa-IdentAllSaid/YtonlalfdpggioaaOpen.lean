/- Arguments opened: what a value of a parameter's type looks like in memory. -/
import Derived.Test.YtonlalfdpggioaaRows
import Derived.Test.YtonlalfdpggioaaBase
import Derived.ProofKit
import Derived.OpenShut
import Derived.ShutString
import Derived.ChangeOld
namespace Go.Proofs.Ytonlalfdpggioaa
open Go.ChangeShapes Go.WideShapes Go.ChangeAt Go.RowKit
open Go.ChangeMaps (open_string shut_string)

def IsInt (k : IntKind) (v : Value) : Prop := ∃ a, v = .int k a ∧ (Lit.int k a).wf = true
def IsStr (v : Value) : Prop := ∃ s, v = .string s ∧ s.size ≤ maxLen
def IsStrs (W : World) (v : Value) : Prop := ∃ A n c ss, v = .slice A n c ∧ RdS W (· < W.heap.size) A n (strs ss) ∧ n ≤ maxLen ∧ (∀ s ∈ ss, s.size ≤ maxLen) ∧ n ≤ c

section
variable {H : Type} {enc : TypeId × Value → H} {base b0 : Nat} {v : Value} {d : DataW H} {p : List MemPlace} {r : Reach}
theorem open_int (W : World) (hv : Value.okWide Try.prog W r b0 3 v) (h : DataW.Trod enc Try.prog W 0 (fun _ => true) true 3 v d p) : IsInt .i64 v := by
  obtain ⟨a0, rfl, rfl, rfl, w0⟩ := Go.ChangeShapes.open_int Try.underlying3 hv h
  exact ⟨a0, rfl, w0⟩
theorem open_u8 (W : World) (hv : Value.okWide Try.prog W r b0 5 v) (h : DataW.Trod enc Try.prog W 0 (fun _ => true) true 5 v d p) : IsInt .u8 v := by
  obtain ⟨a0, rfl, rfl, rfl, w0⟩ := Go.ChangeShapes.open_int Try.underlying5 hv h
  exact ⟨a0, rfl, w0⟩
theorem open_string (W : World) (hv : Value.okWide Try.prog W r b0 9 v) (h : DataW.Trod enc Try.prog W 0 (fun _ => true) true 9 v d p) : IsStr v := by
  obtain ⟨s0, rfl, rfl, rfl, w0⟩ := Go.ChangeMaps.open_string Try.underlying9 hv h
  exact ⟨s0, rfl, w0⟩
theorem open_strs (W : World) (hv : Value.okWide Try.prog W r b0 24 v) (h : DataW.Trod enc Try.prog W 0 (fun _ => true) true 24 v d p) : IsStrs W v := by
  obtain ⟨A, n, c, rfl⟩ := okWide_slice Try.underlying24 hv
  have hlt : ∀ x ∈ p, x.block < W.heap.size := by obtain ⟨m, hm⟩ := h; exact DataW.trod_lt m _ _ _ hm
  obtain ⟨fuel, hf⟩ := h
  rcases open_strings Try.underlying24 Try.underlying9 (by kernel_rfl) hf with ⟨hcs, _⟩ | ⟨x, l, cap, ss, hcs, _, hl, hm, hz, hx, hcell, hws⟩
  · simp [Value.cells] at hcs
    obtain ⟨rfl, rfl, rfl⟩ := hcs
    exact ⟨none, 0, 0, [], rfl, RdS.none_, Nat.zero_le _, by simp, Nat.le_refl _⟩
  · simp [Value.cells] at hcs
    obtain ⟨rfl, rfl, rfl⟩ := hcs
    simp only [if_true] at hz
    refine ⟨some x, n, c, ss.take n, rfl, ⟨by simp [strs_length]; omega, fun hn => ?_⟩, by omega, fun s hs => hws s (List.mem_of_mem_take hs), hl⟩
    obtain ⟨b, off, spot⟩ := x
    have hc0 := hcell 0 (by omega)
    have hspot : spot = none := by simpa [Addr.add] using World.cell?_spot hc0
    subst hspot
    have hbl : b < W.heap.size := by
      have := World.block_lt_of_cell? _ _ hc0
      simpa [Addr.add] using this
    refine ⟨b, off, rfl, hbl, fun j u hu => ?_⟩
    have hj : j < n := by
      rcases Nat.lt_or_ge j n with h1 | h1
      · exact h1
      · rw [List.getElem?_eq_none (by simp [strs_length]; omega)] at hu; cases hu
    have hcj := hcell j (by omega)
    have hu2 : u = .string (ss.getD j ByteArray.empty) := by
      unfold strs at hu
      rw [List.getElem?_map, List.getElem?_take_of_lt hj, List.getElem?_eq_getElem (by omega)] at hu
      cases hu
      rw [List.getD_eq_getElem?_getD, List.getElem?_eq_getElem (by omega)]
      rfl
    subst hu2
    unfold Addr.add at hcj
    split at hcj
    · rename_i h0; subst h0; simpa using hcj
    · exact hcj
end
end Go.Proofs.Ytonlalfdpggioaa
