/- Plain facts on identifiers: which byte lists are identifiers. No program in sight. -/
import Derived.Below
import Derived.Lib.Hide
namespace Go.Proofs.Ytmoakdplhfgipaa
set_option maxRecDepth 20000
open Go.RowKit

/-- a byte (as a number) that is a letter -/
def letB (c : Int) : Bool := decide (97 ≤ c ∧ c ≤ 122 ∨ 65 ≤ c ∧ c ≤ 90)
/-- a byte that may stand behind the first one -/
def chrB (c : Int) : Bool := letB c || decide (48 ≤ c ∧ c ≤ 57 ∨ c = 45 ∨ c = 95 ∨ c = 46)
def chrAll (l : List UInt8) : Bool := l.all fun c => chrB (c.toNat : Int)
/-- the identifiers -/
def validB (l : List UInt8) : Bool := match l with
  | [] => false
  | c :: r => decide (l.length ≤ 32) && (letB (c.toNat : Int) && chrAll r)

theorem chrB_of_letB {c : Int} (h : letB c = true) : chrB c = true := by simp [chrB, h]
theorem chrAll_take_succ (s : List UInt8) (k : Nat) (h : k < s.length) : chrAll (s.take (k + 1)) = (chrAll (s.take k) && chrB (s[k].toNat : Int)) := by
  unfold chrAll
  rw [List.take_succ_eq_append_getElem h, List.all_append]
  simp
theorem chrAll_false_of_take (s : List UInt8) (k : Nat) (h : chrAll (s.take k) = false) : chrAll s = false := by
  unfold chrAll at *
  rw [List.all_eq_false] at *
  obtain ⟨x, hx, hp⟩ := h
  exact ⟨x, List.mem_of_mem_take hx, hp⟩
theorem validB_nil : validB [] = false := rfl
theorem validB_long (l : List UInt8) (h : 32 < l.length) : validB l = false := by
  cases l with
  | nil => rfl
  | cons c r => simp [validB] at *; omega
theorem validB_head (l : List UInt8) (h : 0 < l.length) (hl : letB (l[0].toNat : Int) = false) : validB l = false := by
  cases l with
  | nil => rfl
  | cons c r => simp at hl; simp [validB, hl]
/-- the second and later bytes alone are looked at; the first is a letter, and so it may stand anywhere -/
theorem validB_all (l : List UInt8) (h : 0 < l.length) (h32 : l.length ≤ 32) (hl : letB (l[0].toNat : Int) = true) : validB l = chrAll l := by
  cases l with
  | nil => simp at h
  | cons c r => simp at hl h32; simp [validB, hl, chrAll, chrB_of_letB hl]; omega
theorem chrAll_one (l : List UInt8) (h : 0 < l.length) (hl : letB (l[0].toNat : Int) = true) : chrAll (l.take 1) = true := by
  cases l with
  | nil => simp at h
  | cons c r => simp at hl; simp [chrAll, chrB_of_letB hl]
end Go.Proofs.Ytmoakdplhfgipaa
