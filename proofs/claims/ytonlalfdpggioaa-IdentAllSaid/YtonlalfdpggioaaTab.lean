/- What an identifier table looks like in memory, and contracts of the methods of ident.Table that only read: Len, Name, Find. -/
import Derived.Test.YtonlalfdpggioaaValid
import Derived.Test.YtonlalfdpggioaaBase
import Derived.Maps.OwnSet
import Derived.Maps.AppendAt
import Derived.Laws.OwnMore
import Derived.Deep.AppendLies
import Derived.Deep.Draws
import Derived.Laws.Rows
import Derived.Lib.SmallJoins
namespace Go.Proofs.Ytonlalfdpggioaa
open Go.RowKit Go.Maps

/-! ### the map's datum says at which number an identifier stands -/
def dI (n : Int) : DataW Unit := .lit (.int .i64 n)
def keyL (s : ByteArray) : Lit := .string s.data.toList
structure IdxD (D : DataW Unit) (l : List ByteArray) : Prop where
  at_ : ∀ (i : Nat) (s : ByteArray), l[i]? = some s → has D (keyL s) = true ∧ D.atKey (keyL s) (dI 0) = dI (i : Int)
  no : ∀ s : ByteArray, s ∉ l → has D (keyL s) = false
theorem keyL_ne {s t : ByteArray} (h : s ≠ t) : keyL s ≠ keyL t := by
  intro e
  apply h
  unfold keyL at e
  injection e with e
  exact ByteArray.ext (Array.toList_inj.1 e)
theorem keyL_key (s : ByteArray) : WideAt.IsKeyLit (keyL s) := trivial
theorem IdxD.nil : IdxD (.map []) [] := ⟨fun i s h => by simp at h, fun s _ => rfl⟩
theorem IdxD.put {D : DataW Unit} {l : List ByteArray} (h : IdxD D l) (hD : IsMap D) {s : ByteArray} (hs : s ∉ l) : IdxD (D.put (keyL s) (dI (l.length : Int))) (l ++ [s]) := by
  refine ⟨fun i t ht => ?_, fun t ht => ?_⟩
  · rw [List.getElem?_append] at ht
    split at ht
    · have hm : t ∈ l := List.mem_of_getElem? ht
      have hne : t ≠ s := fun e => hs (e ▸ hm)
      obtain ⟨h1, h2⟩ := h.at_ i t ht
      exact ⟨by rw [has_put_other (keyL_ne hne)]; exact h1, by rw [atKey_put_other (keyL_ne hne)]; exact h2⟩
    · rename_i hi
      have hi' : i - l.length = 0 := by
        rcases Nat.eq_zero_or_pos (i - l.length) with h0 | h0
        · exact h0
        · rw [List.getElem?_eq_none (by simp; omega)] at ht; cases ht
      have e : i = l.length := by omega
      subst e
      simp at ht
      subst ht
      exact ⟨has_put_same hD (keyL_key _) _, atKey_put_same hD (keyL_key _) _ _⟩
  · have hne : t ≠ s := fun e => ht (by simp [e])
    rw [has_put_other (keyL_ne hne)]
    exact h.no t fun hm => ht (by simp [hm])

/-! ### the table -/
/-- 'the table at block tb, its map at block mb, its names in block r, has the identifiers l' -/
structure Tab (w : World) (base tb mb : Nat) (r : Option Nat) (l : List ByteArray) : Prop where
  go : ∃ A c D, Blk w tb 59 #[.slice A l.length c, .map (some mb)] ∧ (Value.slice A l.length c).ownBlock = r ∧ w.ownsRow base 9 1 (.slice A l.length c) l.length (strs l) ∧
    w.ownsMap Try.prog 9 (plainElem Try.prog 3) mb l.length D ∧ IdxD D l
  btb : base ≤ tb
  bmb : base ≤ mb
  nodup : l.Nodup
  fits : l.length ≤ 1099511627776

theorem lawS : Keyed Try.prog 9 := string_keyed Try.underlying9
theorem zeroI (w : World) : (zeroValue 3).run Try.prog w = .ok (.int .i64 0) w := by kernel_rfl

/-- what 'v, ok := t.numbers[s]' gives -/
theorem look_yes {w : World} {mb n : Nat} {D : DataW Unit} {l : List ByteArray} (hm : w.ownsMap Try.prog 9 (plainElem Try.prog 3) mb n D) (hD : IdxD D l) {s : ByteArray} (hs : s.size ≤ maxLen) {i : Nat} (hi : l[i]? = some s) :
    (Instr.lookup 57 (.map (some mb)) (.string s) true).run Try.prog w = .ok (.tuple #[.int .i64 (i : Int), .bool true]) w := by
  obtain ⟨v, ps, hrun, hv⟩ := hm.look_ok lawS Try.underlying57 (zeroI w) (plainElem_int Try.underlying3 (by decide)) (WideMaps.keyOf_string_mk Try.underlying9 hs)
  obtain ⟨c, rfl, hc, _⟩ := plainElem_int_inv Try.underlying3 hv
  obtain ⟨h1, h2⟩ := hD.at_ i s hi
  have e : dI (i : Int) = dI c := h2.symm.trans (congrArg Prod.fst hc)
  have e2 : (i : Int) = c := by injection e with e; injection e
  rw [hrun, show has D (.string s.data.toList) = true from h1, e2]
theorem look_no {w : World} {mb n : Nat} {D : DataW Unit} {l : List ByteArray} (hm : w.ownsMap Try.prog 9 (plainElem Try.prog 3) mb n D) (hD : IdxD D l) {s : ByteArray} (hs : s.size ≤ maxLen) (hi : s ∉ l) :
    (Instr.lookup 57 (.map (some mb)) (.string s) true).run Try.prog w = .ok (.tuple #[.int .i64 0, .bool false]) w := by
  obtain ⟨v, ps, hrun, hv⟩ := hm.look_ok lawS Try.underlying57 (zeroI w) (plainElem_int Try.underlying3 (by decide)) (WideMaps.keyOf_string_mk Try.underlying9 hs)
  obtain ⟨c, rfl, hc, _⟩ := plainElem_int_inv Try.underlying3 hv
  have h1 := hD.no s hi
  have h2 := atKey_of_not_has h1 (dI 0)
  have e : dI (0 : Int) = dI c := h2.symm.trans (congrArg Prod.fst hc)
  have e2 : (0 : Int) = c := by injection e with e; injection e
  rw [hrun, show has D (.string s.data.toList) = false from h1, e2]

/-! ### the methods that only read -/
section
variable {w : World} {base tb mb : Nat} {r : Option Nat} {l : List ByteArray}
set_option maxHeartbeats 400000 in
theorem len_any (h : Tab w base tb mb r l) :
    Calls Try.prog 23 #[.pointer (some ⟨tb, 0, none⟩)] w fun e w' => e = .returned (.int .i64 (l.length : Int)) ∧ w = w' := by
  obtain ⟨A, c, D, hb, _, _, _, _⟩ := h.go
  have c0 := hb.cell 0
  simp at c0
  have hf := h.fits
  clear h hb
  go_enter Try.func23, Try.ntmps23
  go_wp2
  go_ret
  exact ⟨rfl, rfl⟩

set_option maxHeartbeats 400000 in
theorem name_yes (h : Tab w base tb mb r l) {i : Nat} {s : ByteArray} (hi : l[i]? = some s) :
    Calls Try.prog 21 #[.pointer (some ⟨tb, 0, none⟩), .int .i64 (i : Int)] w fun e w' => e = .returned (.tuple #[.string s, .bool true]) ∧ w = w' := by
  obtain ⟨A, c, D, hb, _, hrow, _, _⟩ := h.go
  have hlt : i < l.length := by
    rcases Nat.lt_or_ge i l.length with h1 | h1
    · exact h1
    · rw [List.getElem?_eq_none h1] at hi; cases hi
  have hrd := RdS.of_own hrow
  obtain ⟨b, o, u, rfl, _, hu, hcell⟩ := hrd.at_ hlt
  rw [strs_at hi] at hu
  cases hu
  have c0 := hb.cell 0
  simp at c0
  have hf := h.fits
  clear h hb hrow hrd hi
  have h1 : ¬ ((i : Int) < 0) := by omega
  have h2 : (i : Int) < (l.length : Int) := by omega
  go_enter Try.func21, Try.ntmps21
  go_wp2
  go_ret2
  exact ⟨rfl, rfl⟩

set_option maxHeartbeats 400000 in
theorem name_no (h : Tab w base tb mb r l) {i : Int} (hi : i < 0 ∨ (l.length : Int) ≤ i) :
    Calls Try.prog 21 #[.pointer (some ⟨tb, 0, none⟩), .int .i64 i] w fun e w' => e = .returned (.tuple #[.string ⟨#[]⟩, .bool false]) ∧ w = w' := by
  obtain ⟨A, c, D, hb, _, hrow, _, _⟩ := h.go
  have c0 := hb.cell 0
  simp at c0
  have hf := h.fits
  clear h hb hrow
  by_cases h1 : i < 0
  · clear hi
    go_enter Try.func21, Try.ntmps21
    go_wp2
    go_ret2
    exact ⟨rfl, rfl⟩
  · have h2 : (l.length : Int) ≤ i := by omega
    clear hi
    go_enter Try.func21, Try.ntmps21
    go_wp2
    go_ret2
    exact ⟨rfl, rfl⟩

set_option maxHeartbeats 400000 in
theorem find_yes (h : Tab w base tb mb r l) {i : Nat} {s : ByteArray} (hs : s.size ≤ maxLen) (hi : l[i]? = some s) :
    Calls Try.prog 19 #[.pointer (some ⟨tb, 0, none⟩), .string s] w fun e w' => e = .returned (.tuple #[.int .i64 (i : Int), .bool true]) ∧ w = w' := by
  obtain ⟨A, c, D, hb, _, _, hm, hD⟩ := h.go
  have c1 := hb.cell 1
  simp at c1
  have hlook := look_yes hm hD hs hi
  clear h hb hm hD hi hs
  go_enter Try.func19, Try.ntmps19
  go_wp2
  go_ret2
  exact ⟨rfl, rfl⟩

set_option maxHeartbeats 400000 in
theorem find_no (h : Tab w base tb mb r l) {s : ByteArray} (hs : s.size ≤ maxLen) (hi : s ∉ l) :
    Calls Try.prog 19 #[.pointer (some ⟨tb, 0, none⟩), .string s] w fun e w' => e = .returned (.tuple #[.int .i64 0, .bool false]) ∧ w = w' := by
  obtain ⟨A, c, D, hb, _, _, hm, hD⟩ := h.go
  have c1 := hb.cell 1
  simp at c1
  have hlook := look_no hm hD hs hi
  clear h hb hm hD hi hs
  go_enter Try.func19, Try.ntmps19
  go_wp2
  go_ret2
  exact ⟨rfl, rfl⟩
end
end Go.Proofs.Ytonlalfdpggioaa
