/- Contracts of Fits, of the program and of the reference; lists of integers that came in. -/
import Derived.Test.YtmoakdplhfgipaaVehU
import Derived.Test.YtmoakdplhfgipaaOpen
namespace Go.Proofs.Ytmoakdplhfgipaa
set_option maxRecDepth 20000
open Go.RowKit Go.Maps

def zs (l : List Int) : List Value := l.map (Value.int .i64)
theorem zs_at {l : List Int} {i : Nat} {x : Int} (h : l[i]? = some x) : (zs l)[i]? = some (.int .i64 x) := by simp [zs, h]
theorem zs_len (l : List Int) : (zs l).length = l.length := by simp [zs]
/-- the element of a row of integers -/
theorem RdS.z {w : World} {S : Nat → Prop} {A : Option Addr} {n k : Nat} {l : List Int} {x : Int} (h : RdS w S A n (zs l)) (hk : k < n) (hx : l[k]? = some x) : ∃ b o, A = some ⟨b, o, none⟩ ∧ S b ∧ w.cell? ⟨b, o + k, none⟩ = some (.int .i64 x) := by
  obtain ⟨b, o, u, e, hb, hu, hc⟩ := h.at_ hk
  rw [zs_at hx] at hu
  cases hu
  exact ⟨b, o, e, hb, hc⟩

def i64ok (x : Int) : Prop := -9223372036854775808 ≤ x ∧ x ≤ 9223372036854775807

def fitT (g : Int) (l : List Int) (k : Nat) : Prop := (∀ n ∈ l.take k, 0 ≤ n) ∧ (k = 0 ∨ (l.take k).sum ≤ g)
theorem take_snoc' {α : Type} {l : List α} {k : Nat} {x : α} (hx : l[k]? = some x) : l.take (k + 1) = l.take k ++ [x] := by rw [List.take_add_one, hx]; rfl
theorem take_mem_snoc {l : List Int} {k : Nat} {x : Int} (h : ∀ n ∈ l.take k, 0 ≤ n) (hx : l[k]? = some x) (h0 : 0 ≤ x) : ∀ n ∈ l.take (k + 1), 0 ≤ n := by
  rw [take_snoc' hx]
  intro n hn
  rcases List.mem_append.1 hn with h1 | h1
  · exact h n h1
  · rw [List.mem_singleton.1 h1]; exact h0
theorem fit_neg {g : Int} {l : List Int} {k : Nat} {x : Int} (hx : l[k]? = some x) (h : x < 0) : ¬ fitP g l := fun hf => by
  have := hf.2.1 x (List.mem_of_getElem? hx)
  omega
theorem fit_big {g : Int} {l : List Int} {k : Nat} {x : Int} (hx : l[k]? = some x) (h : g < (l.take k).sum + x) : ¬ fitP g l := fun hf => by
  have h1 := sum_take_le hf.2.1 (k + 1)
  rw [take_snoc' hx, sum_snoc] at h1
  have := hf.2.2
  omega
theorem sum_nonneg {l : List Int} (h : ∀ n ∈ l, 0 ≤ n) : 0 ≤ l.sum := by
  have := sum_take_le h 0
  simpa using this

/-- what is left of the capacity -/
def FreeIs (g : Int) (l : List Int) (k : Nat) (b : Bool) (f : Int) : Prop :=
  (∀ n ∈ l.take k, 0 ≤ n) ∧ i64ok f ∧ ((b = true ∧ f = g - (l.take k).sum ∧ (k = 0 ∨ 0 ≤ f)) ∨ (b = false ∧ ¬ fitP g l))

end Go.Proofs.Ytmoakdplhfgipaa
