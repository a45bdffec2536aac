/- A map[int]bool that the call itself has made, as a partial function: look-up, look-up with ok, store. -/
import Derived.Test.YtpeidgfaejnhiaaBase
import Derived.Maps.OwnSet
namespace Go.Proofs.Ytpeidgfaejnhiaa
open Go.RowKit Go.Maps

def boolI (x : Bool) : DataW Unit := .lit (.bool x)
def updI (f : Int → Option Bool) (k : Int) (b : Bool) : Int → Option Bool := fun x => if x = k then some b else f x
structure MbD (D : DataW Unit) (f : Int → Option Bool) : Prop where
  at_ : ∀ x : Int, D.atKey (.int .i64 x) (boolI false) = boolI ((f x).getD false)
  has_ : ∀ x : Int, Maps.has D (.int .i64 x) = (f x).isSome
theorem keyI_ne {x y : Int} (h : x ≠ y) : Lit.int .i64 x ≠ Lit.int .i64 y := by
  intro e
  injection e with _ e
  exact h e
theorem keyI_key (x : Int) : WideAt.IsKeyLit (.int .i64 x) := trivial
theorem MbD.nil : MbD (.map []) (fun _ => none) := ⟨fun x => rfl, fun x => rfl⟩
theorem MbD.put {D : DataW Unit} {f : Int → Option Bool} (h : MbD D f) (hD : IsMap D) (k : Int) (b : Bool) : MbD (D.put (.int .i64 k) (boolI b)) (updI f k b) := by
  refine ⟨fun x => ?_, fun x => ?_⟩
  · by_cases e : x = k
    · subst e
      rw [atKey_put_same hD (keyI_key _)]
      simp [updI]
    · rw [atKey_put_other (keyI_ne e), h.at_ x]
      simp [updI, e]
  · by_cases e : x = k
    · subst e
      rw [has_put_same hD (keyI_key _)]
      simp [updI]
    · rw [has_put_other (keyI_ne e), h.has_ x]
      simp [updI, e]
theorem lawII : Keyed Try.prog 3 := int_keyed Try.underlying3
theorem zeroBI (w : World) : (zeroValue 4).run Try.prog w = .ok (.bool false) w := by kernel_rfl
/-- 'the block mb is a map[int]bool of at most n entries that reads as the partial function f' -/
def Mb (w : World) (mb n : Nat) (f : Int → Option Bool) : Prop := ∃ D : DataW Unit, w.ownsMap Try.prog 3 (plainElem Try.prog 4) mb n D ∧ MbD D f
theorem wf_of {x : Int} (h0 : -9223372036854775808 ≤ x) (h1 : x ≤ 9223372036854775807) : (Lit.int .i64 x).wf = true := by
  have e0 : IntKind.i64.min = -9223372036854775808 := rfl
  have e1 : IntKind.i64.max = 9223372036854775807 := rfl
  simp [Lit.wf, e0, e1, h0, h1]
section
variable {w w' : World} {mb n : Nat} {f : Int → Option Bool}
theorem Mb.made (w : World) : Mb (w.alloc (.map #[] 0)) w.heap.size 0 (fun _ => none) := ⟨_, World.ownsMap_made w _ _ _, MbD.nil⟩
theorem Mb.lt (h : Mb w mb n f) : mb < w.heap.size := by
  obtain ⟨D, hm, _⟩ := h
  exact hm.lt
theorem Mb.kept {row : Option Nat} (h : Mb w mb n f) (hg : w.grownBy w' row) (hne : some mb ≠ row) : Mb w' mb n f := by
  obtain ⟨D, hm, hD⟩ := h
  exact ⟨D, hm.kept hg hne, hD⟩
theorem Mb.alloc (h : Mb w mb n f) (o : Obj) : Mb (w.alloc o) mb n f := by
  obtain ⟨D, hm, hD⟩ := h
  exact ⟨D, hm.alloc o, hD⟩
theorem Mb.drew (h : Mb w mb n f) : Mb w.drew mb n f := h
theorem Mb.below (h : Mb w mb n f) (hb : Below w.heap.size w w') : Mb w' mb n f := by
  obtain ⟨D, ⟨es, clock, h1, h2⟩, hD⟩ := h
  have hlt : mb < w.heap.size := (Array.getElem?_eq_some_iff.1 h1).1
  exact ⟨D, ⟨es, clock, (hb.block mb hlt).trans h1, h2⟩, hD⟩
theorem Mb.mono (h : Mb w mb n f) {n' : Nat} (hn : n ≤ n') : Mb w mb n' f := by
  obtain ⟨D, hm, hD⟩ := h
  exact ⟨D, hm.mono hn, hD⟩
theorem Mb.look (h : Mb w mb n f) {x : Int} (hx : (Lit.int .i64 x).wf = true) :
    (Instr.lookup 66 (.map (some mb)) (.int .i64 x) false).run Try.prog w = .ok (.bool ((f x).getD false)) w := by
  obtain ⟨D, hm, hD⟩ := h
  obtain ⟨v, ps, hrun, hv⟩ := hm.lookup lawII Try.underlying66 (zeroBI w) (plainElem_bool Try.underlying4 false) (keyOf_int_mk Try.underlying3 hx)
  have h2 := hD.at_ x
  unfold plainElem at hv
  rw [Try.underlying4] at hv
  cases v <;> simp at hv
  rename_i y
  have e : boolI y = boolI ((f x).getD false) := hv.1.trans h2
  have e2 : y = (f x).getD false := by injection e with e; injection e
  rw [hrun, e2]
theorem Mb.look_ok (h : Mb w mb n f) {x : Int} (hx : (Lit.int .i64 x).wf = true) :
    (Instr.lookup 66 (.map (some mb)) (.int .i64 x) true).run Try.prog w = .ok (.tuple #[.bool ((f x).getD false), .bool (f x).isSome]) w := by
  obtain ⟨D, hm, hD⟩ := h
  obtain ⟨v, ps, hrun, hv⟩ := hm.look_ok lawII Try.underlying66 (zeroBI w) (plainElem_bool Try.underlying4 false) (keyOf_int_mk Try.underlying3 hx)
  have h2 := hD.at_ x
  rw [hD.has_ x] at hrun
  unfold plainElem at hv
  rw [Try.underlying4] at hv
  cases v <;> simp at hv
  rename_i y
  have e : boolI y = boolI ((f x).getD false) := hv.1.trans h2
  have e2 : y = (f x).getD false := by injection e with e; injection e
  rw [hrun, e2]
theorem Mb.store (h : Mb w mb n f) (hn : n < maxLen) {k : Int} (hk : (Lit.int .i64 k).wf = true) (b : Bool) :
    ∃ w', (Instr.mapUpdate 66 (.map (some mb)) (.int .i64 k) (.bool b)).run Try.prog w = .ok () w' ∧ Mb w' mb (n + 1) (updI f k b) ∧ w.grownBy w' (some mb) := by
  obtain ⟨D, hm, hD⟩ := h
  obtain ⟨w', hrun, hown, hg⟩ := hm.update lawII Try.underlying66 hn (keyOf_int_mk Try.underlying3 hk) (plainElem_bool Try.underlying4 b)
  exact ⟨w', hrun, ⟨_, hown, hD.put hm.isMap k b⟩, hg⟩
end
end Go.Proofs.Ytpeidgfaejnhiaa
