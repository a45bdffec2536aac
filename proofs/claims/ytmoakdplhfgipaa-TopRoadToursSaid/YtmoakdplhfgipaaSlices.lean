/- A slice of structs that came in: its elements as a list, each element's cells in memory. Over any program. -/
import Derived.Test.YtmoakdplhfgipaaFlat
import Derived.Test.YtmoakdplhfgipaaBase
namespace Go.Proofs.Ytmoakdplhfgipaa
set_option maxRecDepth 20000
open Go.ChangeShapes Go.WideShapes Go.ChangeAt Go.RowKit Go.Deep

theorem list_of {α : Type} {P : Nat → α → Prop} : ∀ n, (∀ i, i < n → ∃ x, P i x) → ∃ L : List α, L.length = n ∧ ∀ i x, L[i]? = some x → P i x
  | 0, _ => ⟨[], rfl, fun i x h => by simp at h⟩
  | n + 1, h => by
    obtain ⟨L, hl, hL⟩ := list_of n (fun i hi => h i (by omega))
    obtain ⟨x, hx⟩ := h n (by omega)
    refine ⟨L ++ [x], by simp [hl], fun i y hy => ?_⟩
    rw [List.getElem?_append] at hy
    split at hy
    · exact hL i y hy
    · rename_i hi
      have e : i = n := by
        rcases Nat.lt_or_ge (i - L.length) 1 with h1 | h1
        · omega
        · rw [List.getElem?_eq_none (by simpa using h1)] at hy; cases hy
      subst e
      simp [hl] at hy
      subst hy
      exact hx

/-- 'the slice value with address A and n elements reads as the list L, each element in size cells as cs gives them, in blocks of S' -/
def RdT {α : Type} (w : World) (S : Nat → Prop) (size : Nat) (cs : α → List Value) (A : Option Addr) (n : Nat) (L : List α) : Prop :=
  L.length = n ∧ (0 < n → ∃ b o, A = some ⟨b, o, none⟩ ∧ S b ∧ ∀ i x, L[i]? = some x → ∀ j u, (cs x)[j]? = some u → w.cell? ⟨b, o + (i * size + j), none⟩ = some u)
section
variable {α : Type} {w w' : World} {S S' : Nat → Prop} {size : Nat} {cs : α → List Value} {A : Option Addr} {n : Nat} {L : List α}
theorem RdT.none_ : RdT w S size cs none 0 [] := ⟨rfl, fun h => absurd h (by omega)⟩
theorem RdT.keep (h : RdT w S size cs A n L) (hk : ∀ b, S b → w'.heap[b]? = w.heap[b]?) : RdT w' S size cs A n L :=
  ⟨h.1, fun hn => by
    obtain ⟨b, o, e, hb, hc⟩ := h.2 hn
    exact ⟨b, o, e, hb, fun i x hx j u hu => (World.cell?_of_block (a := ⟨b, o + (i * size + j), none⟩) (hk b hb)).trans (hc i x hx j u hu)⟩⟩
theorem RdT.mono (h : RdT w S size cs A n L) (hS : ∀ b, S b → S' b) : RdT w S' size cs A n L :=
  ⟨h.1, fun hn => by
    obtain ⟨b, o, e, hb, hc⟩ := h.2 hn
    exact ⟨b, o, e, hS b hb, hc⟩⟩
theorem RdT.below {B : Nat} (h : RdT w (· < B) size cs A n L) (hb : Below B w w') : RdT w' (· < B) size cs A n L := h.keep fun b hb' => hb.block b hb'
theorem RdT.up (h : RdT w (· < w.heap.size) size cs A n L) (hb : Below w.heap.size w w') : RdT w' (· < w'.heap.size) size cs A n L :=
  (h.below hb).mono fun _ hb' => Nat.lt_of_lt_of_le hb' hb.size
end

section
variable {H : Type} {enc : TypeId × Value → H} {P : Program} {W : World}
theorem open_rows {α : Type} {r : Reach} {b0 k : Nat} {t e : TypeId} {ls : List TypeId} {v : Value} {d : DataW H} {p : List MemPlace} (ht : P.underlying t = some (.slice e)) (hf : flat P k e = some ls) (hc : P.cellsOf e = ls.length) (hpos : 0 < ls.length)
    (cs : α → List Value) (ok : α → Prop) (hcs : ∀ x, (cs x).length = ls.length)
    (hel : ∀ us : List Value, us.length = ls.length → (∀ (j : Nat) (lt : TypeId), ls[j]? = some lt → ∃ u, us[j]? = some u ∧ Leaf enc P W 0 (fun _ => true) true lt u) → ∃ x, cs x = us ∧ ok x)
    (hv : Value.okWide P W r b0 t v) (h : DataW.Trod enc P W 0 (fun _ => true) true t v d p) :
    ∃ A n c L, v = .slice A n c ∧ RdT W (· < W.heap.size) ls.length cs A n L ∧ n ≤ maxLen ∧ n ≤ c ∧ ∀ x ∈ L, ok x := by
  obtain ⟨A, n, c, rfl⟩ := okWide_slice ht hv
  obtain ⟨fuel, hf'⟩ := h
  rcases open_slice ht hf' with ⟨hcs', _⟩ | ⟨a, len, cap, m, fl, D, Pl, hcs', _, hl, hm, hmm, _, hi⟩
  · simp [Value.cells] at hcs'
    obtain ⟨rfl, rfl, rfl⟩ := hcs'
    exact ⟨none, 0, 0, [], rfl, RdT.none_, Nat.zero_le _, Nat.le_refl _, by simp⟩
  · simp [Value.cells] at hcs'
    obtain ⟨rfl, rfl, rfl⟩ := hcs'
    simp only [if_true] at hmm
    have hel' : ∀ i, i < n → ∃ x, ok x ∧ ∀ j u, (cs x)[j]? = some u → W.cell? (a.add (i * ls.length + j)) = some u := by
      intro i hin
      obtain ⟨cs', hc', ht'⟩ := hi i (by omega)
      rw [hc] at hc'
      obtain ⟨_, hcl, hat⟩ := World.cells?_some hc'
      obtain ⟨x, hx, hok⟩ := hel cs' (by rw [← hcl]) (fun j lt hj => flat_reads k e ls fl cs' _ hf (by rw [hc, ← hcl]) ht' j lt hj)
      refine ⟨x, hok, fun j u hu => ?_⟩
      rw [hx] at hu
      have hjl : j < ls.length := by
        rcases Nat.lt_or_ge j ls.length with h1 | h1
        · exact h1
        · rw [List.getElem?_eq_none (by omega)] at hu; cases hu
      have := hat j hjl
      rw [Go.Deep.add_add] at this
      rw [this, hu]
    obtain ⟨L, hL, hP⟩ := list_of n hel'
    refine ⟨some a, n, c, L, rfl, ⟨hL, fun hn => ?_⟩, by omega, hl, fun x hx => ?_⟩
    · obtain ⟨b, off, spot⟩ := a
      obtain ⟨x, hx⟩ := at_lt (l := L) (k := 0) (by omega)
      obtain ⟨u, hu⟩ := at_lt (l := cs x) (k := 0) (by rw [hcs]; exact hpos)
      have hc0 := (hP 0 x hx).2 0 u hu
      have hspot : spot = none := by simpa [Addr.add] using World.cell?_spot hc0
      subst hspot
      have hbl : b < W.heap.size := by
        have := World.block_lt_of_cell? _ _ hc0
        simpa [Addr.add] using this
      refine ⟨b, off, rfl, hbl, fun i x hx j u hu => ?_⟩
      have := (hP i x hx).2 j u hu
      unfold Addr.add at this
      split at this
      · rename_i h0; rw [h0]; simpa using this
      · exact this
    · obtain ⟨i, hi⟩ := List.getElem?_of_mem hx
      exact (hP i x hi).1
end
end Go.Proofs.Ytmoakdplhfgipaa
