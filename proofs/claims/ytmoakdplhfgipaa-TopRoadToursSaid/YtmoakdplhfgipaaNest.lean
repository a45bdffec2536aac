/- A slice of structs inside a struct that came in: its elements as a list. Over any program. -/
import Derived.Test.YtmoakdplhfgipaaSlices
namespace Go.Proofs.Ytmoakdplhfgipaa
set_option maxRecDepth 20000
open Go.ChangeShapes Go.WideShapes Go.ChangeAt Go.RowKit Go.Deep

section
variable {H : Type} {enc : TypeId × Value → H} {P : Program} {W : World}
theorem rows_of_leaf {α : Type} {k : Nat} {t e : TypeId} {ls : List TypeId} {v : Value} (ht : P.underlying t = some (.slice e)) (hf : flat P k e = some ls) (hc : P.cellsOf e = ls.length) (hpos : 0 < ls.length)
    (cs : α → List Value) (ok : α → Prop) (hcs : ∀ x, (cs x).length = ls.length)
    (hel : ∀ us : List Value, us.length = ls.length → (∀ (j : Nat) (lt : TypeId), ls[j]? = some lt → ∃ u, us[j]? = some u ∧ Leaf enc P W 0 (fun _ => true) true lt u) → ∃ x, cs x = us ∧ ok x)
    (h : Leaf enc P W 0 (fun _ => true) true t v) :
    ∃ A n c L, v = .slice A n c ∧ RdT W (· < W.heap.size) ls.length cs A n L ∧ n ≤ maxLen ∧ n ≤ c ∧ ∀ x ∈ L, ok x := by
  obtain ⟨fuel, y, hf'⟩ := h
  rcases open_slice ht hf' with ⟨hcs', _⟩ | ⟨a, len, cap, m, fl, D, Pl, hcs', _, hl, hm, hmm, _, hi⟩
  · simp at hcs'
    subst hcs'
    exact ⟨none, 0, 0, [], rfl, RdT.none_, Nat.zero_le _, Nat.le_refl _, by simp⟩
  · simp at hcs'
    subst hcs'
    simp only [if_true] at hmm
    have hel' : ∀ i, i < len → ∃ x, ok x ∧ ∀ j u, (cs x)[j]? = some u → W.cell? (a.add (i * ls.length + j)) = some u := by
      intro i hin
      obtain ⟨cs', hc', ht'⟩ := hi i (by omega)
      rw [hc] at hc'
      obtain ⟨_, hcl, hat⟩ := World.cells?_some hc'
      obtain ⟨x, hx, hok⟩ := hel cs' (by rw [← hcl]) (fun j lt hj => flat_reads k e ls fl cs' _ hf (by rw [hc, ← hcl]) ht' j lt hj)
      refine ⟨x, hok, fun j u hu => ?_⟩
      rw [hx] at hu
      have hjl : j < ls.length := by
        rcases Nat.lt_or_ge j ls.length with h1 | h1
        · exact h1
        · rw [List.getElem?_eq_none (by omega)] at hu; cases hu
      have := hat j hjl
      rw [Go.Deep.add_add] at this
      rw [this, hu]
    obtain ⟨L, hL, hP⟩ := list_of len hel'
    refine ⟨some a, len, cap, L, rfl, ⟨hL, fun hn => ?_⟩, by omega, hl, fun x hx => ?_⟩
    · obtain ⟨b, off, spot⟩ := a
      obtain ⟨x, hx⟩ := at_lt (l := L) (k := 0) (by omega)
      obtain ⟨u, hu⟩ := at_lt (l := cs x) (k := 0) (by rw [hcs]; exact hpos)
      have hc0 := (hP 0 x hx).2 0 u hu
      have hspot : spot = none := by simpa [Addr.add] using World.cell?_spot hc0
      subst hspot
      have hbl : b < W.heap.size := by
        have := World.block_lt_of_cell? _ _ hc0
        simpa [Addr.add] using this
      refine ⟨b, off, rfl, hbl, fun i x hx j u hu => ?_⟩
      have := (hP i x hx).2 j u hu
      unfold Addr.add at this
      split at this
      · rename_i h0; rw [h0]; simpa using this
      · exact this
    · obtain ⟨i, hi⟩ := List.getElem?_of_mem hx
      exact (hP i x hi).1
end
end Go.Proofs.Ytmoakdplhfgipaa
