/- Containers, in plain Lean: what the register's functions compute. -/
import Derived.Test.YtpeidgfaejnhiaaValid
import Derived.Test.YtpeidgfaejnhiaaSlices
namespace Go.Proofs.Ytpeidgfaejnhiaa
open Go.RowKit

structure Con where
  id : ByteArray
  kind : Int
  lit : Int
  gr : Int
  node : Int
def Con.cs (c : Con) : List Value := [.string c.id, .int .i64 c.kind, .int .i64 c.lit, .int .i64 c.gr, .int .i64 c.node]
abbrev Con.vs (c : Con) : Array Value := #[.string c.id, .int .i64 c.kind, .int .i64 c.lit, .int .i64 c.gr, .int .i64 c.node]
/-- the first error of a container -/
def conE (c : Con) (m n : Int) : Int :=
  if validB c.id.data.toList = false then 5 else if c.kind < 0 ∨ m ≤ c.kind then 21 else if c.lit < 1 ∨ 40000 < c.lit ∨ c.gr < 1 ∨ 1073741824 < c.gr then 1 else if c.node < 0 ∨ n ≤ c.node then 7 else 0
/-- the first element that is not 0, or 0 -/
def firstE : List Int → Int
  | [] => 0
  | x :: r => if x = 0 then firstE r else x
theorem firstE_append (a b : List Int) : firstE (a ++ b) = if firstE a = 0 then firstE b else firstE a := by
  induction a with
  | nil => simp [firstE]
  | cons x r ih =>
    simp only [List.cons_append, firstE]
    split
    · exact ih
    · rename_i h; rfl
theorem firstE_snoc_zero {a : List Int} (h : firstE a = 0) (x : Int) : firstE (a ++ [x]) = x := by
  rw [firstE_append, if_pos h]
  simp only [firstE]
  split
  · rename_i h0; exact h0.symm
  · rfl
theorem firstE_take {l : List Int} {k : Nat} {x : Int} (h : firstE (l.take k) = 0) (hk : l[k]? = some x) : firstE (l.take (k + 1)) = x := by
  have : l.take (k + 1) = l.take k ++ [x] := by rw [List.take_add_one, hk]; rfl
  rw [this, firstE_snoc_zero h]
theorem firstE_stop {l : List Int} {k : Nat} (h : firstE (l.take k) ≠ 0) : firstE l = firstE (l.take k) := by
  have e : firstE (l.take k ++ l.drop k) = _ := (firstE_append _ _).trans (if_neg h)
  rwa [List.take_append_drop] at e
theorem firstE_zero_iff {l : List Int} : firstE l = 0 ↔ ∀ x ∈ l, x = 0 := by
  induction l with
  | nil => simp [firstE]
  | cons x r ih =>
    unfold firstE
    split
    · rename_i h; rw [ih]; simp [h]
    · rename_i h; simp [h]
/-- whether an element of a list stands in it before -/
def dupB {α : Type} [DecidableEq α] (l : List α) : Bool := !decide l.Nodup
/-- the error of a register -/
def chkL (L : List Con) (m n : Int) : Int :=
  if 256 < L.length then 8 else if firstE (L.map (conE · m n)) ≠ 0 then firstE (L.map (conE · m n)) else if (L.map Con.id).Nodup then 0 else 6
end Go.Proofs.Ytpeidgfaejnhiaa
