/- General words on lists, results, slices of structs (I). -/
import Derived.Test.YtmoakdplhfgipaaValid
import Derived.Test.YtmoakdplhfgipaaSlices
import Derived.Deep.QuietTactic
import Derived.BigQuiet
namespace Go.Proofs.Ytmoakdplhfgipaa
set_option maxRecDepth 20000
open Go.RowKit Go.Maps

/-- the first element that is not 0, or 0 -/
def firstE : List Int → Int
  | [] => 0
  | x :: r => if x = 0 then firstE r else x
theorem firstE_append (a b : List Int) : firstE (a ++ b) = if firstE a = 0 then firstE b else firstE a := by
  induction a with
  | nil => simp [firstE]
  | cons x r ih =>
    simp only [List.cons_append, firstE]
    split
    · exact ih
    · rename_i h; rfl
theorem firstE_snoc_zero {a : List Int} (h : firstE a = 0) (x : Int) : firstE (a ++ [x]) = x := by
  rw [firstE_append, if_pos h]
  simp only [firstE]
  split
  · rename_i h0; exact h0.symm
  · rfl
theorem firstE_take {l : List Int} {k : Nat} {x : Int} (h : firstE (l.take k) = 0) (hk : l[k]? = some x) : firstE (l.take (k + 1)) = x := by
  have : l.take (k + 1) = l.take k ++ [x] := by rw [List.take_add_one, hk]; rfl
  rw [this, firstE_snoc_zero h]
theorem firstE_stop {l : List Int} {k : Nat} (h : firstE (l.take k) ≠ 0) : firstE l = firstE (l.take k) := by
  have e : firstE (l.take k ++ l.drop k) = _ := (firstE_append _ _).trans (if_neg h)
  rwa [List.take_append_drop] at e
theorem firstE_zero_iff {l : List Int} : firstE l = 0 ↔ ∀ x ∈ l, x = 0 := by
  induction l with
  | nil => simp [firstE]
  | cons x r ih =>
    unfold firstE
    split
    · rename_i h; rw [ih]; simp [h]
    · rename_i h; simp [h]
theorem ret_int {k : IntKind} {a b : Int} (h : a = b) : Ending.returned (.int k a) = .returned (.int k b) := by rw [h]
theorem ret2 {k k' : IntKind} {a b c d : Int} (h : a = b) (h' : c = d) : Ending.returned (.tuple #[.int k a, .int k' c]) = .returned (.tuple #[.int k b, .int k' d]) := by rw [h, h']

theorem div_bd (a b : Int) (ha : 0 ≤ a) (hb : 1 ≤ b) : 0 ≤ a / b ∧ a / b ≤ a :=
  ⟨Int.ediv_nonneg ha (by omega), Int.ediv_le_self _ ha⟩
theorem bytes_beq (s t : ByteArray) : (s.toList == t.toList) = decide (s = t) := by
  by_cases h : s = t
  · subst h; rw [bytes_self]; simp
  · rw [bytes_ne h]; simp [h]
/-- the element of a slice of structs: its cells, one by one -/
theorem RdT.cells_ {α : Type} {w wr : World} {B size : Nat} {cs : α → List Value} {b o n k : Nat} {L : List α} {x : α} (h : RdT w (· < B) size cs (some ⟨b, o, none⟩) n L) (hk : k < n) (hx : L[k]? = some x) (hb : Below B w wr) :
    b < B ∧ ∀ j u, (cs x)[j]? = some u → wr.cell? ⟨b, o + k * size + j, none⟩ = some u := by
  obtain ⟨b', o', e, hb', hc⟩ := h.2 (by omega)
  injection e with e
  injection e with e1 e2
  subst e1; subst e2
  exact ⟨hb', fun j u hu => (hb.cell (p := ⟨b, o + k * size + j, none⟩) hb').trans (by rw [Nat.add_assoc]; exact hc k x hx j u hu)⟩

end Go.Proofs.Ytmoakdplhfgipaa
