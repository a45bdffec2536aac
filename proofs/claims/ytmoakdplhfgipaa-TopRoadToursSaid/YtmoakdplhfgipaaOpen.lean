/- Arguments opened: what a value of a parameter's type looks like in memory. -/
import Derived.Test.YtmoakdplhfgipaaRows
import Derived.Test.YtmoakdplhfgipaaBase
import Derived.ProofKit
import Derived.OpenShut
import Derived.ShutString
import Derived.ChangeOld
namespace Go.Proofs.Ytmoakdplhfgipaa
set_option maxRecDepth 20000
open Go.ChangeShapes Go.WideShapes Go.ChangeAt Go.RowKit
open Go.ChangeMaps (open_string shut_string)

def IsInt (k : IntKind) (v : Value) : Prop := ∃ a, v = .int k a ∧ (Lit.int k a).wf = true
def IsStr (v : Value) : Prop := ∃ s, v = .string s ∧ s.size ≤ maxLen
def IsStrs (W : World) (v : Value) : Prop := ∃ A n c ss, v = .slice A n c ∧ RdS W (· < W.heap.size) A n (strs ss) ∧ n ≤ maxLen ∧ (∀ s ∈ ss, s.size ≤ maxLen) ∧ n ≤ c

section
variable {H : Type} {enc : TypeId × Value → H} {base b0 : Nat} {v : Value} {d : DataW H} {p : List MemPlace} {r : Reach}
theorem open_int (W : World) (hv : Value.okWide Try.prog W r b0 3 v) (h : DataW.Trod enc Try.prog W 0 (fun _ => true) true 3 v d p) : IsInt .i64 v := by
  obtain ⟨a0, rfl, rfl, rfl, w0⟩ := Go.ChangeShapes.open_int Try.underlying3 hv h
  exact ⟨a0, rfl, w0⟩
theorem open_u8 (W : World) (hv : Value.okWide Try.prog W r b0 5 v) (h : DataW.Trod enc Try.prog W 0 (fun _ => true) true 5 v d p) : IsInt .u8 v := by
  obtain ⟨a0, rfl, rfl, rfl, w0⟩ := Go.ChangeShapes.open_int Try.underlying5 hv h
  exact ⟨a0, rfl, w0⟩
theorem open_string (W : World) (hv : Value.okWide Try.prog W r b0 9 v) (h : DataW.Trod enc Try.prog W 0 (fun _ => true) true 9 v d p) : IsStr v := by
  obtain ⟨s0, rfl, rfl, rfl, w0⟩ := Go.ChangeMaps.open_string Try.underlying9 hv h
  exact ⟨s0, rfl, w0⟩
end
end Go.Proofs.Ytmoakdplhfgipaa
