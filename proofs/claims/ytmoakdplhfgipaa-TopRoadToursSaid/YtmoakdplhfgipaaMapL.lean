/- A map[int][]Leg that the call itself has made, as a partial function to values: look-up with ok, store. -/
import Derived.Test.YtmoakdplhfgipaaLegW
import Derived.Maps.OwnSet
namespace Go.Proofs.Ytmoakdplhfgipaa
set_option maxRecDepth 20000
open Go.RowKit Go.Maps

/-- an element of the map, held as it stands -/
def heldR (v : Value) : Option (DataW Value × List MemPlace) := some (.held v, [])
def updV (f : Int → Option Value) (k : Int) (b : Value) : Int → Option Value := fun x => if x = k then some b else f x
structure MlD (D : DataW Value) (f : Int → Option Value) : Prop where
  at_ : ∀ x : Int, D.atKey (.int .i64 x) (.held (.slice none 0 0)) = .held ((f x).getD (.slice none 0 0))
  has_ : ∀ x : Int, Maps.has D (.int .i64 x) = (f x).isSome
theorem keyI_ne {x y : Int} (h : x ≠ y) : Lit.int .i64 x ≠ Lit.int .i64 y := by
  intro e
  injection e with _ e
  exact h e
theorem keyI_key (x : Int) : WideAt.IsKeyLit (.int .i64 x) := trivial
theorem MlD.nil : MlD (.map []) (fun _ => none) := ⟨fun x => rfl, fun x => rfl⟩
theorem MlD.put {D : DataW Value} {f : Int → Option Value} (h : MlD D f) (hD : IsMap D) (k : Int) (b : Value) : MlD (D.put (.int .i64 k) (.held b)) (updV f k b) := by
  refine ⟨fun x => ?_, fun x => ?_⟩
  · by_cases e : x = k
    · subst e
      rw [atKey_put_same hD (keyI_key _)]
      simp [updV]
    · rw [atKey_put_other (keyI_ne e), h.at_ x]
      simp [updV, e]
  · by_cases e : x = k
    · subst e
      rw [has_put_same hD (keyI_key _)]
      simp [updV]
    · rw [has_put_other (keyI_ne e), h.has_ x]
      simp [updV, e]
theorem lawII : Keyed Try.prog 3 := int_keyed Try.underlying3
theorem zeroLS (w : World) : (zeroValue 40).run Try.prog w = .ok (.slice none 0 0) w := by kernel_rfl
/-- 'the block mb is a map[int][]Leg of at most n entries that reads as the partial function f' -/
def Ml (w : World) (mb n : Nat) (f : Int → Option Value) : Prop := ∃ D : DataW Value, w.ownsMap Try.prog 3 heldR mb n D ∧ MlD D f
theorem wf_of {x : Int} (h0 : -9223372036854775808 ≤ x) (h1 : x ≤ 9223372036854775807) : (Lit.int .i64 x).wf = true := by
  have e0 : IntKind.i64.min = -9223372036854775808 := rfl
  have e1 : IntKind.i64.max = 9223372036854775807 := rfl
  simp [Lit.wf, e0, e1, h0, h1]
section
variable {w w' : World} {mb n : Nat} {f : Int → Option Value}
theorem Ml.made (w : World) : Ml (w.alloc (.map #[] 0)) w.heap.size 0 (fun _ => none) := ⟨_, World.ownsMap_made w _ _ _, MlD.nil⟩
theorem Ml.lt (h : Ml w mb n f) : mb < w.heap.size := by
  obtain ⟨D, hm, _⟩ := h
  exact hm.lt
theorem Ml.kept {row : Option Nat} (h : Ml w mb n f) (hg : w.grownBy w' row) (hne : some mb ≠ row) : Ml w' mb n f := by
  obtain ⟨D, hm, hD⟩ := h
  exact ⟨D, hm.kept hg hne, hD⟩
theorem Ml.alloc (h : Ml w mb n f) (o : Obj) : Ml (w.alloc o) mb n f := by
  obtain ⟨D, hm, hD⟩ := h
  exact ⟨D, hm.alloc o, hD⟩
theorem Ml.drew (h : Ml w mb n f) : Ml w.drew mb n f := h
theorem Ml.below (h : Ml w mb n f) (hb : Below w.heap.size w w') : Ml w' mb n f := by
  obtain ⟨D, ⟨es, clock, h1, h2⟩, hD⟩ := h
  have hlt : mb < w.heap.size := (Array.getElem?_eq_some_iff.1 h1).1
  exact ⟨D, ⟨es, clock, (hb.block mb hlt).trans h1, h2⟩, hD⟩
theorem Ml.mono (h : Ml w mb n f) {n' : Nat} (hn : n ≤ n') : Ml w mb n' f := by
  obtain ⟨D, hm, hD⟩ := h
  exact ⟨D, hm.mono hn, hD⟩
theorem Ml.look_ok (h : Ml w mb n f) {x : Int} (hx : (Lit.int .i64 x).wf = true) :
    (Instr.lookup 65 (.map (some mb)) (.int .i64 x) true).run Try.prog w = .ok (.tuple #[(f x).getD (.slice none 0 0), .bool (f x).isSome]) w := by
  obtain ⟨D, hm, hD⟩ := h
  obtain ⟨v, ps, hrun, hv⟩ := hm.look_ok lawII Try.underlying65 (zeroLS w) (zd := .held (.slice none 0 0)) (zp := []) rfl (keyOf_int_mk Try.underlying3 hx)
  have h2 := hD.at_ x
  rw [hD.has_ x] at hrun
  unfold heldR at hv
  injection hv with hv
  injection hv with hv _
  rw [h2] at hv
  injection hv with hv
  rw [hrun, hv]
theorem Ml.store (h : Ml w mb n f) (hn : n < maxLen) {k : Int} (hk : (Lit.int .i64 k).wf = true) (b : Value) :
    ∃ w', (Instr.mapUpdate 65 (.map (some mb)) (.int .i64 k) b).run Try.prog w = .ok () w' ∧ Ml w' mb (n + 1) (updV f k b) ∧ w.grownBy w' (some mb) := by
  obtain ⟨D, hm, hD⟩ := h
  obtain ⟨w', hrun, hown, hg⟩ := hm.update lawII Try.underlying65 hn (keyOf_int_mk Try.underlying3 hk) (val := b) (d := .held b) (ps := []) rfl
  exact ⟨w', hrun, ⟨_, hown, hD.put hm.isMap k b⟩, hg⟩
end
end Go.Proofs.Ytmoakdplhfgipaa
