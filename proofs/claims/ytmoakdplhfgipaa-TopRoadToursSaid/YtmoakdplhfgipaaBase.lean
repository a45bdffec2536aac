/- Words for memory: a slice that reads as a list, a block that is known whole. -/
import Derived.Test.YtmoakdplhfgipaaProg
import Derived.WalkKit
import Derived.WalkSpells
import Derived.WalkLawsBesides
import Derived.Handy
import Derived.Lib.Hide
import Derived.Maps.AppendAt
import Derived.Laws.OwnMore
import Derived.Deep.AppendLies
import Derived.Deep.Draws
import Derived.Laws.Rows
import Derived.Lib.SmallJoins
namespace Go.Proofs.Ytmoakdplhfgipaa
set_option maxRecDepth 20000
open Go.RowKit

/-! ### a slice that reads as a list, in blocks of a set -/
def RdS (w : World) (S : Nat → Prop) (A : Option Addr) (n : Nat) (xs : List Value) : Prop :=
  xs.length = n ∧ (0 < n → ∃ b o, A = some ⟨b, o, none⟩ ∧ S b ∧ ∀ j u, xs[j]? = some u → w.cell? ⟨b, o + j, none⟩ = some u)
theorem RdS.none_ {w : World} {S : Nat → Prop} : RdS w S none 0 [] := ⟨rfl, fun h => absurd h (by omega)⟩
theorem RdS.at_ {w : World} {S : Nat → Prop} {A : Option Addr} {n : Nat} {xs : List Value} {k : Nat} (h : RdS w S A n xs) (hk : k < n) :
    ∃ b o u, A = some ⟨b, o, none⟩ ∧ S b ∧ xs[k]? = some u ∧ w.cell? ⟨b, o + k, none⟩ = some u := by
  obtain ⟨b, o, e, hb, hc⟩ := h.2 (by omega)
  have hl : k < xs.length := by have := h.1; omega
  exact ⟨b, o, xs[k], e, hb, List.getElem?_eq_getElem hl, hc k _ (List.getElem?_eq_getElem hl)⟩
theorem RdS.keep {w w' : World} {S : Nat → Prop} {A : Option Addr} {n : Nat} {xs : List Value} (h : RdS w S A n xs) (hk : ∀ b, S b → w'.heap[b]? = w.heap[b]?) : RdS w' S A n xs :=
  ⟨h.1, fun hn => by
    obtain ⟨b, o, e, hb, hc⟩ := h.2 hn
    exact ⟨b, o, e, hb, fun j u hu => (World.cell?_of_block (a := ⟨b, o + j, none⟩) (hk b hb)).trans (hc j u hu)⟩⟩
theorem RdS.mono {w : World} {S S' : Nat → Prop} {A : Option Addr} {n : Nat} {xs : List Value} (h : RdS w S A n xs) (hS : ∀ b, S b → S' b) : RdS w S' A n xs :=
  ⟨h.1, fun hn => by
    obtain ⟨b, o, e, hb, hc⟩ := h.2 hn
    exact ⟨b, o, e, hS b hb, hc⟩⟩
theorem RdS.below {w w' : World} {B : Nat} {A : Option Addr} {n : Nat} {xs : List Value} (h : RdS w (· < B) A n xs) (hb : Below B w w') : RdS w' (· < B) A n xs := h.keep fun b hb' => hb.block b hb'
theorem RdS.of_own {w : World} {base : Nat} {e : TypeId} {A : Option Addr} {n c : Nat} {xs : List Value} (h : w.ownsRow base e 1 (.slice A n c) n xs) : RdS w (fun b => base ≤ b ∧ b < w.heap.size ∧ (Value.slice A n c).ownBlock = some b) A n xs := by
  refine ⟨by simpa using h.1, fun hn => ?_⟩
  obtain ⟨g, cap, hv, hb, hlt⟩ := h.form hn
  have hA : A = some ⟨g, 0, none⟩ := by injection hv
  subst hA
  refine ⟨g, 0, rfl, ⟨hb, hlt, rfl⟩, fun j u hu => ?_⟩
  have h1 := h.cells (g := g) rfl j u hu
  have h2 : (⟨g, 0, none⟩ : Addr).add j = ⟨g, 0 + j, none⟩ := by
    unfold Addr.add; split
    · simp [*]
    · rfl
  rw [h2] at h1
  exact h1

/-! ### a block known whole -/
def Blk (w : World) (g : Nat) (t : TypeId) (cs : Array Value) : Prop := w.heap[g]? = some (.cells cs t (0, 0))
section
variable {w w' : World} {g : Nat} {t : TypeId} {cs : Array Value}
theorem Blk.lt (h : Blk w g t cs) : g < w.heap.size := by
  rcases Nat.lt_or_ge g w.heap.size with hlt | hge
  · exact hlt
  · unfold Blk at h; rw [Array.getElem?_eq_none hge] at h; cases h
theorem Blk.cell (h : Blk w g t cs) (i : Nat) : w.cell? ⟨g, i, none⟩ = cs[i]? := cell_of_row w g i cs t (0, 0) h
theorem Blk.frozen (h : Blk w g t cs) (i : Nat) : w.frozen? ⟨g, i, none⟩ = false := by
  unfold Blk at h
  simp [World.frozen?, h]
theorem Blk.new (w : World) (t : TypeId) (cs : Array Value) : Blk (w.alloc (.cells cs t)) w.heap.size t cs := heap_alloc_new w _
theorem Blk.alloc (h : Blk w g t cs) (o : Obj) : Blk (w.alloc o) g t cs := (Below.heap_alloc w o g h.lt).trans h
theorem Blk.set_ (h : Blk w g t cs) (i : Nat) (u : Value) : Blk (w.setCell ⟨g, i, none⟩ u) g t (cs.setIfInBounds i u) := by
  unfold Blk at h ⊢
  simp [World.setCell, Array.getElem?_modify, h]
theorem Blk.far (h : Blk w g t cs) {p : Addr} (hp : g ≠ p.block) (u : Value) : Blk (w.setCell p u) g t cs := (Below.heap_setCell w p u g hp).trans h
theorem Blk.keep (h : Blk w g t cs) (hk : w'.heap[g]? = w.heap[g]?) : Blk w' g t cs := hk.trans h
theorem Blk.ne_ {g' : Nat} {t' : TypeId} {cs' : Array Value} (h : Blk w g t cs) (h' : Blk w g' t' cs') (hne : t ≠ t') : g ≠ g' := by
  rintro rfl
  unfold Blk at h h'
  rw [h] at h'
  injection h' with h'
  injection h' with _ ht
  exact hne ht
end

def strs (l : List ByteArray) : List Value := l.map Value.string
theorem strs_length (l : List ByteArray) : (strs l).length = l.length := by simp [strs]
theorem strs_at {l : List ByteArray} {i : Nat} {s : ByteArray} (h : l[i]? = some s) : (strs l)[i]? = some (.string s) := by simp [strs, h]
theorem strs_snoc (l : List ByteArray) (s : ByteArray) : strs (l ++ [s]) = strs l ++ [.string s] := by simp [strs]

theorem RdS.lit (w : World) (cs : Array Value) (t : TypeId) : RdS (w.alloc (.cells cs t)) (· < (w.alloc (.cells cs t)).heap.size) (some ⟨w.heap.size, 0, none⟩) cs.size cs.toList :=
  ⟨by simp, fun _ => ⟨w.heap.size, 0, rfl, by simp, fun j u hu => by
    have := (Blk.new w t cs).cell j
    rw [Nat.zero_add, this]; simpa using hu⟩⟩

theorem strs_one (l : List ByteArray) : ∀ u ∈ strs l, u.oneCell' = true := by
  intro u hu
  simp only [strs, List.mem_map] at hu
  obtain ⟨s, _, rfl⟩ := hu
  rfl
theorem RdS.adds {w : World} {S : Nat → Prop} {b o n : Nat} {xs : List Value} (h : RdS w S (some ⟨b, o, none⟩) n xs) : ∀ j u, xs[j]? = some u → w.cell? ((⟨b, o, none⟩ : Addr).add j) = some u := by
  intro j u hu
  have hj : 0 < n := by
    rcases Nat.eq_zero_or_pos n with h0 | h0
    · have := h.1
      rw [h0] at this
      rw [List.eq_nil_of_length_eq_zero this] at hu
      simp at hu
    · exact h0
  obtain ⟨b', o', he, _, hc⟩ := h.2 hj
  injection he with he
  injection he with e1 e2
  subst e1; subst e2
  have := hc j u hu
  unfold Addr.add
  split
  · rename_i h0; subst h0; simpa using this
  · exact this

theorem RdS.up {w w' : World} {A : Option Addr} {n : Nat} {xs : List Value} (h : RdS w (· < w.heap.size) A n xs) (hb : Below w.heap.size w w') : RdS w' (· < w'.heap.size) A n xs :=
  (h.below hb).mono fun _ hb' => Nat.lt_of_lt_of_le hb' hb.size

theorem Blk.grow {w w' : World} {g : Nat} {t : TypeId} {cs : Array Value} (h : Blk w g t cs) (hb : Below w.heap.size w w') : Blk w' g t cs := h.keep (hb.block _ h.lt)
theorem Blk.new1 (w : World) (o : Obj) (t : TypeId) (cs : Array Value) : Blk ((w.alloc o).alloc (.cells cs t)) (w.heap.size + 1) t cs := by simpa using Blk.new (w.alloc o) t cs

theorem Blk.keepG {w w' : World} {g : Nat} {t : TypeId} {cs : Array Value} {row : Option Nat} (h : Blk w g t cs) (o : Obj) (hg : (w.alloc o).drew.grownBy w' row) (hr : some g ≠ row) : Blk w' g t cs :=
  (h.alloc o).keep (hg.block g (h.alloc o).lt hr)

theorem Blk.new2 (w : World) (o o' : Obj) (t : TypeId) (cs : Array Value) : Blk (((w.alloc o).alloc o').alloc (.cells cs t)) (w.heap.size + 1 + 1) t cs := by simpa using Blk.new ((w.alloc o).alloc o') t cs
theorem at_lt {α : Type} {l : List α} {k : Nat} (h : k < l.length) : ∃ s, l[k]? = some s := ⟨_, List.getElem?_eq_getElem h⟩

theorem bytes_ne {s t : ByteArray} (h : t ≠ s) : (t.toList == s.toList) = false := by
  rw [beq_eq_false_iff_ne]
  intro e
  rw [ByteArray.toList_eq, ByteArray.toList_eq] at e
  exact h (ByteArray.ext (Array.toList_inj.1 e))
theorem bytes_self (s : ByteArray) : (s.toList == s.toList) = true := beq_self_eq_true _

theorem belowN {B : Nat} {w w' : World} (h : Below B w w') (n : Nat) : Below B w (w'.drewN n) := ⟨h.os, h.tape, h.output, h.size, h.block⟩
end Go.Proofs.Ytmoakdplhfgipaa
