/- A struct's cells, field by field, structs in structs taken apart: each leaf's own reading. Over any program. -/
import Derived.ProofKit
import Derived.OpenShut
import Derived.Deep.Slices
import Derived.Lib.SmallJoins
namespace Go.Proofs.Ytmoakdplhfgipaa
set_option maxRecDepth 20000
open Go.ChangeShapes Go.WideShapes Go.ChangeAt Go.RowKit Go.Deep

def flats (fl : TypeId → Option (List TypeId)) (c : TypeId → Nat) : List Field → Nat → Option (List TypeId)
  | [], _ => some []
  | f :: r, off => if f.offset = off then (fl f.type).bind fun ls => if c f.type = ls.length then (flats fl c r (off + ls.length)).map (ls ++ ·) else none else none
/-- the leaves' types of a type's cells -/
def flat (P : Program) : Nat → TypeId → Option (List TypeId)
  | 0, _ => none
  | k + 1, t => match P.underlying t with
    | some (.struct fs) => (flats (flat P k) P.cellsOf fs.toList 0).bind fun ls => if P.cellsOf t = ls.length then some ls else none
    | _ => if P.cellsOf t = 1 then some [t] else none

section
variable {H : Type} {enc : TypeId × Value → H} {P : Program} {w : World} {base : Nat} {spare : Nat → Bool} {held : Bool}
def Leaf (enc : TypeId × Value → H) (P : Program) (w : World) (base : Nat) (spare : Nat → Bool) (held : Bool) (t : TypeId) (v : Value) : Prop := ∃ n y, DataW.trod enc P w base spare held n t [v] = some y

theorem flats_reads {fl : TypeId → Option (List TypeId)} {n : Nat} {cs : List Value}
    (ih : ∀ (t : TypeId) (ls : List TypeId) (cs' : List Value) (y : DataW H × List MemPlace), fl t = some ls → cs'.length = P.cellsOf t → DataW.trod enc P w base spare held n t cs' = some y → ∀ (j : Nat) (lt : TypeId), ls[j]? = some lt → ∃ v, cs'[j]? = some v ∧ Leaf enc P w base spare held lt v) :
    ∀ (l : List Field) (off : Nat) (ls : List TypeId), flats fl P.cellsOf l off = some ls → off + ls.length ≤ cs.length →
      (∀ f ∈ l, ∃ y, DataW.trod enc P w base spare held n f.type ((cs.drop f.offset).take (P.cellsOf f.type)) = some y) →
      ∀ (j : Nat) (lt : TypeId), ls[j]? = some lt → ∃ v, cs[off + j]? = some v ∧ Leaf enc P w base spare held lt v
  | [], off, ls, hf, _, _, j, lt, hj => by
    simp [flats] at hf
    subst hf
    simp at hj
  | f :: r, off, ls, hf, hlen, hall, j, lt, hj => by
    unfold flats at hf
    split at hf
    · rename_i hoff
      obtain ⟨l1, h1, h2⟩ := Option.bind_eq_some_iff.1 hf
      split at h2
      · rename_i hc
        obtain ⟨l2, h3, rfl⟩ := Option.map_eq_some_iff.1 h2
        rw [List.length_append] at hlen
        rw [List.getElem?_append] at hj
        split at hj
        · rename_i hlt
          obtain ⟨y, hy⟩ := hall f (List.mem_cons_self ..)
          obtain ⟨v, hv, hleaf⟩ := ih f.type l1 _ y h1 (by rw [List.length_take, List.length_drop]; omega) hy j lt hj
          refine ⟨v, ?_, hleaf⟩
          rw [List.getElem?_take, if_pos (by omega), List.getElem?_drop] at hv
          rw [← hoff]; exact hv
        · obtain ⟨v, hv, hleaf⟩ := flats_reads ih r (off + l1.length) l2 h3 (by omega) (fun g hg => hall g (List.mem_cons_of_mem _ hg)) (j - l1.length) lt hj
          refine ⟨v, ?_, hleaf⟩
          rw [← hv]; congr 1; omega
      · cases h2
    · cases hf

theorem flat_reads : ∀ (k : Nat) (t : TypeId) (ls : List TypeId) (n : Nat) (cs : List Value) (y : DataW H × List MemPlace), flat P k t = some ls → cs.length = P.cellsOf t →
    DataW.trod enc P w base spare held n t cs = some y → ∀ (j : Nat) (lt : TypeId), ls[j]? = some lt → ∃ v, cs[j]? = some v ∧ Leaf enc P w base spare held lt v
  | 0, t, ls, n, cs, y, hf, hlen, h, j, lt, hj => by simp [flat] at hf
  | k + 1, t, ls, n, cs, y, hf, hlen, h, j, lt, hj => by
    unfold flat at hf
    split at hf
    · rename_i fs hs
      obtain ⟨l1, h1, h2⟩ := Option.bind_eq_some_iff.1 hf
      split at h2
      · rename_i hc
        cases h2
        obtain ⟨xs, m, _, _, _, hxl, hat⟩ := DataW.trod_struct hs h
        have := flats_reads (n := m) (cs := cs) (fun t ls cs' y h1 h2 h3 => flat_reads k t ls m cs' y h1 h2 h3) fs.toList 0 _ h1 (by omega) (fun f hfm => by
          obtain ⟨i, hi⟩ := List.getElem?_of_mem hfm
          have hi2 : fs[i]? = some f := by simpa using hi
          have hlt : i < xs.length := by
            rw [hxl]
            exact (Array.getElem?_eq_some_iff.1 hi2).1
          exact ⟨_, (hat i f hi2).trans (List.getElem?_eq_getElem hlt)⟩) j lt hj
        simpa using this
      · cases h2
    · split at hf
      · rename_i hc
        cases hf
        match cs, hlen.trans hc with
        | [v], _ =>
          match j, hj with
          | 0, hj => simp at hj; subst hj; exact ⟨v, rfl, n, y, h⟩
      · cases hf

theorem Leaf.int {t : TypeId} {q : IntKind} {v : Value} (ht : P.underlying t = some (.int q)) (h : Leaf enc P w base spare held t v) : ∃ a, v = .int q a ∧ (Lit.int q a).wf = true := by
  obtain ⟨n, y, h⟩ := h
  obtain ⟨a, e, _, hw⟩ := DataW.trod_int ht h
  simp at e
  exact ⟨a, e, hw⟩
theorem Leaf.str {t : TypeId} {v : Value} (ht : P.underlying t = some .string) (h : Leaf enc P w base spare held t v) : ∃ s, v = .string s ∧ s.size ≤ maxLen := by
  obtain ⟨n, y, h⟩ := h
  obtain ⟨s, e, _, hw⟩ := DataW.trod_string ht h
  simp at e
  exact ⟨s, e, hw⟩

/-- a struct by value: its cells' list, each with its leaf -/
theorem open_agg {r : Reach} {b0 k : Nat} {t : TypeId} {fs : Array Field} {ls : List TypeId} {v : Value} {d : DataW H} {p : List MemPlace} (hs : P.underlying t = some (.struct fs)) (hf : flat P k t = some ls) (hl : P.cellsOf t = ls.length)
    (hv : Value.okWide P w r b0 t v) (h : DataW.Trod enc P w base spare held t v d p) : ∃ cs : Array Value, v = .agg cs ∧ cs.size = ls.length ∧ ∀ (j : Nat) (lt : TypeId), ls[j]? = some lt → ∃ u, cs[j]? = some u ∧ Leaf enc P w base spare held lt u := by
  obtain ⟨cs, rfl, hsz⟩ := okWide_struct hs hv
  obtain ⟨fuel, hf'⟩ := h
  refine ⟨cs, rfl, by omega, fun j lt hj => ?_⟩
  have := flat_reads k t ls fuel cs.toList (d, p) hf (by simpa using hsz) (by simpa [Value.cells] using hf') j lt hj
  simpa using this
end
end Go.Proofs.Ytmoakdplhfgipaa
