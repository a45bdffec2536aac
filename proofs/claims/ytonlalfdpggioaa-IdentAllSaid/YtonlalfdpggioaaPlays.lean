/- IdentPlays: what a table and a state of the reference have in common, and what a call of Add does to both. -/
import Derived.Test.YtonlalfdpggioaaSame
namespace Go.Proofs.Ytonlalfdpggioaa.identPlays
open Go.RowKit Go.Maps

/-- the state's names, apart from the table's blocks and from the state's own box -/
def StD (w : World) (A : Option Addr) (l : List ByteArray) (tb mb sb : Nat) (r : Option Nat) : Prop :=
  (A = none ∨ ∃ g, A = some ⟨g, 0, none⟩) ∧ RdS w (fun b => b < w.heap.size ∧ b ≠ tb ∧ b ≠ mb ∧ b ≠ sb ∧ some b ≠ r) A l.length (strs l)
section
variable {w w' : World} {A : Option Addr} {n lo tb mb sb base : Nat} {l : List ByteArray} {r r' : Option Nat}
theorem StD.st (h : StD w A l tb mb sb r) : StIs w 0 A l.length l := ⟨h.1, h.2.mono fun _ hb => ⟨Nat.zero_le _, hb.1⟩⟩
theorem StD.turn (h : StD w A l tb mb sb r) (hT : TabTurn w w' tb mb r r') : StD w' A l tb mb sb r' :=
  ⟨h.1, (h.2.keep fun b hb => hT.block b hb.1 hb.2.1 hb.2.2.1 hb.2.2.2.2).mono fun b hb => ⟨Nat.lt_of_lt_of_le hb.1 hT.size, hb.2.1, hb.2.2.1, hb.2.2.2.1, fun e => by
    rcases hT.row with e2 | ⟨g, e2, hlt⟩
    · exact hb.2.2.2.2 (e.trans e2)
    · rw [e2] at e; injection e with e; have := hb.1; omega⟩⟩
theorem StD.grow (h : StD w A l tb mb sb r) (hb : Below w.heap.size w w') : StD w' A l tb mb sb r :=
  ⟨h.1, (h.2.keep fun b hb' => hb.block b hb'.1).mono fun _ hb' => ⟨Nat.lt_of_lt_of_le hb'.1 hb.size, hb'.2⟩⟩
theorem StD.of_st (h : StIs w lo A n l) (h1 : tb < lo) (h2 : mb < lo) (h4 : sb < lo ∨ w.heap.size ≤ sb) (h3 : ∀ k, r = some k → k < lo) : StD w A l tb mb sb r := by
  have hl := h.len
  subst hl
  exact ⟨h.1, h.2.mono fun b hb => ⟨hb.2, by omega, by omega, by omega, fun e => by have := h3 b e.symm; omega⟩⟩
theorem StD.far (h : StD w A l tb mb sb r) (u : Value) : StD (w.setCell ⟨sb, 0, none⟩ u) A l tb mb sb r :=
  ⟨h.1, (h.2.keep fun b hb => Below.heap_setCell w ⟨sb, 0, none⟩ u b hb.2.2.2.1).mono fun b hb => ⟨by simpa [World.setCell] using hb.1, hb.2⟩⟩
theorem Tab.apart {t : TypeId} {cs : Array Value} {g : Nat} (h : Tab w base tb mb r l) (hg : Blk w g t cs) (h1 : t ≠ 59) (h2 : t ≠ 9) : g ≠ tb ∧ g ≠ mb ∧ some g ≠ r := by
  obtain ⟨A, c, D, hb, hr, hrow, hm, _⟩ := h.go
  exact ⟨Blk.ne_ hg hb h1, blk_map_ne hg hm, fun e => own_blk_ne hrow hg (fun e => h2 e.symm) (hr.trans e.symm)⟩
theorem Tab.far {t : TypeId} {cs : Array Value} {g : Nat} (h : Tab w base tb mb r l) (hg : Blk w g t cs) (h1 : t ≠ 59) (h2 : t ≠ 9) (u : Value) : Tab (w.setCell ⟨g, 0, none⟩ u) base tb mb r l := by
  obtain ⟨a, b, c⟩ := Tab.apart h hg h1 h2
  exact h.keep (Below.heap_setCell w ⟨g, 0, none⟩ u tb (fun e => a e.symm)) (Below.heap_setCell w ⟨g, 0, none⟩ u mb (fun e => b e.symm)) (fun k hk => Below.heap_setCell w ⟨g, 0, none⟩ u k (fun e => c (by rw [hk]; exact congrArg some e.symm)))
end

/-- the table and the state of the reference have the same identifiers -/
def PSt (w wx : World) (tb mb sb bound : Nat) : Prop := ∃ acc A9 c9 r3, Tab wx w.heap.size tb mb r3 acc ∧ Blk wx sb 31 #[.slice A9 acc.length c9] ∧ StD wx A9 acc tb mb sb r3 ∧ (∀ s ∈ acc, s.size ≤ maxLen) ∧ acc.length ≤ bound ∧ Below w.heap.size w wx

theorem undrew {w w' : World} (h : Below w.drew.heap.size w.drew w') : Below w.heap.size w w' := ⟨h.os, h.tape, h.output, h.size, h.block⟩
theorem PSt.grow {w wr wx : World} {tb mb sb n n' : Nat} {acc : List ByteArray} {A9 : Option Addr} {c9 : Nat} {r3 : Option Nat} (h1 : Tab wr w.heap.size tb mb r3 acc) (h2 : Blk wr sb 31 #[.slice A9 acc.length c9]) (h3 : StD wr A9 acc tb mb sb r3) (h4 : ∀ s ∈ acc, s.size ≤ maxLen)
    (h5 : acc.length ≤ n) (h6 : Below w.heap.size w wr) (hb : Below wr.heap.size wr wx) (hn : n ≤ n') : PSt w wx tb mb sb n' :=
  ⟨acc, A9, c9, r3, h1.grow hb, h2.grow hb, StD.grow h3 hb, h4, by omega, h6.trans (hb.mono h6.size)⟩

/-- the identifiers behind a call of Add -/
def addL (l : List ByteArray) (s : ByteArray) : List ByteArray := if addE l s = 0 then l ++ [s] else l
def AddIs (l : List ByteArray) (s : ByteArray) (m : Int) : Prop := (addE l s = 0 ∧ m = (l.length : Int)) ∨ (addE l s ≠ 0 ∧ m = 0)
theorem AddIs.same {l : List ByteArray} {s : ByteArray} {m m' : Int} (h : AddIs l s m) (h' : AddIs l s m') : m = m' := by
  rcases h with ⟨h1, h2⟩ | ⟨h1, h2⟩ <;> rcases h' with ⟨h3, h4⟩ | ⟨h3, h4⟩
  · omega
  · exact absurd h1 h3
  · exact absurd h3 h1
  · omega
theorem addL_len (l : List ByteArray) (s : ByteArray) : (addL l s).length ≤ l.length + 1 := by unfold addL; split <;> simp
theorem addL_mem {l : List ByteArray} {s t : ByteArray} (h : t ∈ addL l s) : t ∈ l ∨ t = s := by
  unfold addL at h
  split at h
  · simpa using h
  · exact .inl h
section
variable {w w1 wr : World} {base tb mb sb : Nat} {r : Option Nat} {l : List ByteArray} {A A' : Option Addr} {c c' n' : Nat} {m : Int} {s : ByteArray}
theorem add_any (h : Tab w base tb mb r l) (hs : s.size ≤ maxLen) (hroom : l.length < 1099511627776) :
    Calls Try.prog 17 #[.pointer (some ⟨tb, 0, none⟩), .string s] w fun e w' => ∃ m r', e = .returned (.tuple #[.int .i64 m, .int .i64 (addE l s)]) ∧ AddIs l s m ∧ Tab w' base tb mb r' (addL l s) ∧ TabTurn w w' tb mb r r' := by
  rcases addE_cases l s with ⟨ha, hv⟩ | ⟨ha, hv, hm⟩ | ⟨ha, hv, hm⟩
  · refine (add_name hs hv).mono fun e w' ⟨he, hw⟩ => ?_
    subst hw
    refine ⟨0, r, by rw [ha]; exact he, .inr ⟨by rw [ha]; decide, rfl⟩, ?_, TabTurn.refl⟩
    unfold addL; rw [if_neg (by rw [ha]; decide)]; exact h
  · refine (add_twice h hs hv hm).mono fun e w' ⟨he, hw⟩ => ?_
    subst hw
    refine ⟨0, r, by rw [ha]; exact he, .inr ⟨by rw [ha]; decide, rfl⟩, ?_, TabTurn.refl⟩
    unfold addL; rw [if_neg (by rw [ha]; decide)]; exact h
  · refine (add_new h hs hv hm hroom).mono fun e w' ⟨he, r', ht, hT⟩ => ?_
    refine ⟨(l.length : Int), r', by rw [ha]; exact he, .inl ⟨ha, rfl⟩, ?_, hT⟩
    unfold addL; rw [if_pos ha]; exact ht

/-- behind the reference's Add: the new names, and the number -/
def PMeet (wr wx : World) (tb mb sb : Nat) (r : Option Nat) (l : List ByteArray) (s : ByteArray) (g6 : Nat) (A' : Option Addr) (c' : Nat) (m : Int) : Prop :=
  Below wr.heap.size wr wx ∧ Blk wx g6 31 #[.slice A' (addL l s).length c'] ∧ StD wx A' (addL l s) tb mb sb r ∧ AddIs l s m
theorem RAddIs.std (hd : StD wr A l tb mb sb r) (h1 : tb < wr.heap.size) (h2 : mb < wr.heap.size) (h3 : sb < wr.heap.size) (h4 : ∀ k, r = some k → k < wr.heap.size)
    (hX : Below wr.heap.size wr w1) (hA : RAddIs wr w1 A l.length c l s A' n' c' m) : n' = (addL l s).length ∧ StD w1 A' (addL l s) tb mb sb r ∧ AddIs l s m := by
  rcases hA with ⟨ha, rfl, rfl, hst⟩ | ⟨ha, rfl, rfl, rfl, rfl⟩
  · have e : addL l s = l ++ [s] := if_pos ha
    rw [e]
    exact ⟨by simp, StD.of_st hst h1 h2 (.inl h3) h4, .inl ⟨ha, rfl⟩⟩
  · have e : addL l s = l := if_neg ha
    rw [e]
    exact ⟨rfl, StD.grow hd hX, .inr ⟨ha, rfl⟩⟩
theorem pm1 (hd : StD wr A l tb mb sb r) (h1 : tb < wr.heap.size) (h2 : mb < wr.heap.size) (h3 : sb < wr.heap.size) (h4 : ∀ k, r = some k → k < wr.heap.size)
    (hX : Below wr.drew.heap.size wr.drew w1) (hA : RAddIs wr.drew w1 A l.length c l s A' n' c' m) :
    n' = (addL l s).length ∧ PMeet wr (w1.alloc (.cells #[.slice A' n' c'] 31)) tb mb sb r l s w1.heap.size A' c' m := by
  have hX' : Below wr.heap.size wr w1 := ⟨hX.os, hX.tape, hX.output, hX.size, hX.block⟩
  obtain ⟨e, hs, ha⟩ := RAddIs.std hd h1 h2 h3 h4 hX' hA
  refine ⟨e, hX'.alloc hX'.size _, ?_, StD.grow hs ((Below.refl _ _).alloc (Nat.le_refl _) _), ha⟩
  rw [e]
  exact Blk.new _ _ _
theorem pm2 (hd : StD wr A l tb mb sb r) (h1 : tb < wr.heap.size) (h2 : mb < wr.heap.size) (h3 : sb < wr.heap.size) (h4 : ∀ k, r = some k → k < wr.heap.size)
    (hX : Below (wr.alloc (.cells #[.slice none 0 0] 31)).drew.heap.size (wr.alloc (.cells #[.slice none 0 0] 31)).drew w1)
    (hA : RAddIs (wr.alloc (.cells #[.slice none 0 0] 31)).drew w1 A l.length c l s A' n' c' m) :
    n' = (addL l s).length ∧ PMeet wr (w1.setCell ⟨wr.heap.size, 0, none⟩ (.slice A' n' c')) tb mb sb r l s wr.heap.size A' c' m := by
  replace hX : Below (wr.alloc (.cells #[.slice none 0 0] 31)).heap.size (wr.alloc (.cells #[.slice none 0 0] 31)) w1 := ⟨hX.os, hX.tape, hX.output, hX.size, hX.block⟩
  have hk := (Blk.new wr 31 #[.slice none 0 0]).grow hX
  have hb : Below wr.heap.size wr w1 := ((Below.refl _ _).alloc (Nat.le_refl _) _).trans (hX.mono (by simp))
  have hz : w1.heap.size ≤ (w1.setCell ⟨wr.heap.size, 0, none⟩ (.slice A' n' c')).heap.size := by simp [World.setCell]
  rcases hA with ⟨ha, rfl, rfl, hst⟩ | ⟨ha, rfl, rfl, rfl, rfl⟩
  · have e : addL l s = l ++ [s] := if_pos ha
    unfold PMeet
    rw [e]
    refine ⟨by simp, hb.setCell (Nat.le_refl _) _, by simpa using hk.set_ 0 (.slice A' (l.length + 1) c'), ?_, .inl ⟨ha, rfl⟩⟩
    refine StD.of_st (hst.keep (lo' := wr.heap.size + 1) (fun b hb1 _ => Below.heap_setCell w1 ⟨wr.heap.size, 0, none⟩ _ b ?_) hz (by simp)) (by omega) (by omega) (.inl (by omega)) (fun k hk => by have := h4 k hk; omega)
    simp at hb1
    intro e; simp at e; omega
  · have e : addL l s = l := if_neg ha
    unfold PMeet
    rw [e]
    refine ⟨rfl, hb.setCell (Nat.le_refl _) _, by simpa using hk.set_ 0 (.slice A' l.length c'), ?_, .inr ⟨ha, rfl⟩⟩
    exact ⟨hd.1, (hd.2.keep fun b hb' => (Below.heap_setCell w1 ⟨wr.heap.size, 0, none⟩ _ b (by have := hb'.1; intro e; simp at e; omega)).trans (hb.block b hb'.1)).mono fun b hb' => ⟨by have := hb.size; have := hb'.1; omega, hb'.2⟩⟩
end
end Go.Proofs.Ytonlalfdpggioaa.identPlays
