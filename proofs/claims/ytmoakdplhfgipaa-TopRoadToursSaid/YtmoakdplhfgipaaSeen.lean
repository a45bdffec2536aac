/- A map[string]bool that the call itself has made, as a set of strings: look-up, store. -/
import Derived.Test.YtmoakdplhfgipaaBase
import Derived.Maps.OwnSet
namespace Go.Proofs.Ytmoakdplhfgipaa
set_option maxRecDepth 20000
open Go.RowKit Go.Maps

def keyS (s : ByteArray) : Lit := .string s.data.toList
theorem keyS_ne {s t : ByteArray} (h : s ≠ t) : keyS s ≠ keyS t := by
  intro e
  apply h
  unfold keyS at e
  injection e with e
  exact ByteArray.ext (Array.toList_inj.1 e)
theorem keyS_key (s : ByteArray) : WideAt.IsKeyLit (keyS s) := trivial
/-- whether a string stands in a list -/
def memB (s : ByteArray) (l : List ByteArray) : Bool := l.any fun t => decide (t = s)
theorem memB_iff {s : ByteArray} {l : List ByteArray} : memB s l = true ↔ s ∈ l := by simp [memB]
theorem memB_false {s : ByteArray} {l : List ByteArray} : memB s l = false ↔ s ∉ l := by rw [← memB_iff]; simp
def boolD (x : Bool) : DataW Unit := .lit (.bool x)
structure SeenD (D : DataW Unit) (l : List ByteArray) : Prop where
  at_ : ∀ s : ByteArray, D.atKey (keyS s) (boolD false) = boolD (memB s l)
theorem SeenD.nil : SeenD (.map []) [] := ⟨fun s => rfl⟩
theorem SeenD.put {D : DataW Unit} {l : List ByteArray} (h : SeenD D l) (hD : IsMap D) (s : ByteArray) : SeenD (D.put (keyS s) (boolD true)) (l ++ [s]) := by
  refine ⟨fun t => ?_⟩
  by_cases e : t = s
  · subst e
    rw [atKey_put_same hD (keyS_key _), memB_iff.2 (by simp)]
  · rw [atKey_put_other (keyS_ne e), h.at_ t]
    have h1 : memB t (l ++ [s]) = memB t l := by
      have h2 : ¬ (s = t) := fun h => e h.symm
      unfold memB
      rw [List.any_append]
      simp [h2]
    rw [h1]
theorem lawSS : Keyed Try.prog 9 := string_keyed Try.underlying9
theorem zeroB (w : World) : (zeroValue 4).run Try.prog w = .ok (.bool false) w := by kernel_rfl
/-- 'the block mb is a map[string]bool of at most n entries, in which just the strings of l are true' -/
def Seen (w : World) (mb n : Nat) (l : List ByteArray) : Prop := ∃ D : DataW Unit, w.ownsMap Try.prog 9 (plainElem Try.prog 4) mb n D ∧ SeenD D l
theorem Seen.made (w : World) : Seen (w.alloc (.map #[] 0)) w.heap.size 0 [] := ⟨_, World.ownsMap_made w _ _ _, SeenD.nil⟩
theorem Seen.look {w : World} {mb n : Nat} {l : List ByteArray} (h : Seen w mb n l) {s : ByteArray} (hs : s.size ≤ maxLen) :
    (Instr.lookup 107 (.map (some mb)) (.string s) false).run Try.prog w = .ok (.bool (memB s l)) w := by
  obtain ⟨D, hm, hD⟩ := h
  obtain ⟨v, ps, hrun, hv⟩ := hm.lookup lawSS Try.underlying107 (zeroB w) (plainElem_bool Try.underlying4 false) (WideMaps.keyOf_string_mk Try.underlying9 hs)
  have h2 := hD.at_ s
  unfold plainElem at hv
  rw [Try.underlying4] at hv
  cases v <;> simp at hv
  rename_i x
  have e : boolD x = boolD (memB s l) := hv.1.trans h2
  have e2 : x = memB s l := by injection e with e; injection e
  rw [hrun, e2]
theorem Seen.lt {w : World} {mb n : Nat} {l : List ByteArray} (h : Seen w mb n l) : mb < w.heap.size := by
  obtain ⟨D, hm, _⟩ := h
  exact hm.lt
theorem Seen.alloc {w : World} {mb n : Nat} {l : List ByteArray} (h : Seen w mb n l) (o : Obj) : Seen (w.alloc o) mb n l := by
  obtain ⟨D, hm, hD⟩ := h
  exact ⟨D, hm.alloc o, hD⟩
theorem Seen.below {w w' : World} {mb n : Nat} {l : List ByteArray} (h : Seen w mb n l) (hb : Below w.heap.size w w') : Seen w' mb n l := by
  obtain ⟨D, ⟨es, clock, h1, h2⟩, hD⟩ := h
  have hlt : mb < w.heap.size := (Array.getElem?_eq_some_iff.1 h1).1
  exact ⟨D, ⟨es, clock, (hb.block mb hlt).trans h1, h2⟩, hD⟩
theorem Seen.add {w w' : World} {mb n : Nat} {l : List ByteArray} {D : DataW Unit} (hm : w.ownsMap Try.prog 9 (plainElem Try.prog 4) mb n D) (hD : SeenD D l) {s : ByteArray}
    (h' : w'.ownsMap Try.prog 9 (plainElem Try.prog 4) mb (n + 1) (D.put (.string s.data.toList) (.lit (.bool true)))) : Seen w' mb (n + 1) (l ++ [s]) :=
  ⟨_, h', hD.put (hm.isMap) s⟩
end Go.Proofs.Ytmoakdplhfgipaa
