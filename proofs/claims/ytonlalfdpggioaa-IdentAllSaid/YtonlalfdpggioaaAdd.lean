/- Contracts of ident.Table's Add: an invalid name, a name that is there, a new name. -/
import Derived.Test.YtonlalfdpggioaaTab
namespace Go.Proofs.Ytonlalfdpggioaa
open Go.RowKit Go.Maps

section
variable {w w' : World} {base tb mb n : Nat} {r : Option Nat} {l : List ByteArray}
theorem own_blk_ne {e t : TypeId} {size g : Nat} {cs : Array Value} {v : Value} {xs : List Value} (h : w.ownsRow base e size v n xs) (hg : Blk w g t cs) (hne : e ≠ t) : v.ownBlock ≠ some g := by
  rcases h.2 with ⟨rfl, _⟩ | ⟨g', cap, cur, rfl, _, hh, _⟩
  · simp [Value.ownBlock]
  · intro he
    have : g' = g := by simpa [Value.ownBlock] using he
    subst this
    exact Blk.ne_ (t := e) hh hg hne rfl
theorem own_map_ne {e : TypeId} {size g : Nat} {v : Value} {xs : List Value} {P : Program} {k : TypeId} {R : Value → Option (DataW Unit × List MemPlace)} {m : Nat} {D : DataW Unit} (h : w.ownsRow base e size v n xs) (hg : w.ownsMap P k R g m D) : v.ownBlock ≠ some g := by
  obtain ⟨es, clock, hb, _⟩ := hg
  rcases h.2 with ⟨rfl, _⟩ | ⟨g', cap, cur, rfl, _, hh, _⟩
  · simp [Value.ownBlock]
  · intro he
    have : g' = g := by simpa [Value.ownBlock] using he
    subst this
    rw [hb] at hh; simp at hh
theorem blk_map_ne {g t : Nat} {cs : Array Value} {P : Program} {k : TypeId} {R : Value → Option (DataW Unit × List MemPlace)} {m : Nat} {D : DataW Unit} (h : Blk w t g cs) (hg : w.ownsMap P k R mb m D) : t ≠ mb := by
  obtain ⟨es, clock, hb, _⟩ := hg
  rintro rfl
  unfold Blk at h
  rw [hb] at h; simp at h

/-- what a call of Add leaves as it was -/
structure TabTurn (w w' : World) (tb mb : Nat) (r r' : Option Nat) : Prop where
  os : w'.os = w.os
  tape : w'.tape = w.tape
  output : w'.output = w.output
  size : w.heap.size ≤ w'.heap.size
  block : ∀ k, k < w.heap.size → k ≠ tb → k ≠ mb → some k ≠ r → w'.heap[k]? = w.heap[k]?
  row : r' = r ∨ ∃ g, r' = some g ∧ w.heap.size ≤ g
theorem TabTurn.refl : TabTurn w w tb mb r r := ⟨rfl, rfl, rfl, Nat.le_refl _, fun _ _ _ _ _ => rfl, .inl rfl⟩

set_option maxHeartbeats 400000 in
theorem add_name {s : ByteArray} (hs : s.size ≤ maxLen) (hv : validB s.data.toList = false) :
    Calls Try.prog 17 #[.pointer (some ⟨tb, 0, none⟩), .string s] w fun e w' => e = .returned (.tuple #[.int .i64 0, .int .i64 5]) ∧ w = w' := by
  have HV := Lib.hid hv
  clear hv
  go_enter Try.func17, Try.ntmps17
  go_wp2_with (go_at_call 10; refine (valid_val HV.out _ hs).mono ?_; rintro e w' ⟨rfl, rfl⟩)
  go_ret2
  exact ⟨rfl, rfl⟩

set_option maxHeartbeats 400000 in
theorem add_twice (h : Tab w base tb mb r l) {s : ByteArray} (hs : s.size ≤ maxLen) (hv : validB s.data.toList = true) (hm : s ∈ l) :
    Calls Try.prog 17 #[.pointer (some ⟨tb, 0, none⟩), .string s] w fun e w' => e = .returned (.tuple #[.int .i64 0, .int .i64 6]) ∧ w = w' := by
  obtain ⟨A, c, D, hb, _, _, hmap, hD⟩ := h.go
  have c1 := hb.cell 1
  simp at c1
  obtain ⟨i, hi⟩ := List.getElem?_of_mem hm
  have hlook := look_yes hmap hD hs hi
  have HV := Lib.hid hv
  clear h hb hmap hD hv hm hi
  go_enter Try.func17, Try.ntmps17
  go_wp2_with (go_at_call 10; refine (valid_val HV.out _ hs).mono ?_; rintro e w' ⟨rfl, rfl⟩)
  go_ret2
  exact ⟨rfl, rfl⟩

theorem infoS : (Try.prog.info? 9).map (fun i => (i.zero, i.size, i.bytes)) = some (some (.string ⟨#[]⟩), 1, 16) := by kernel_rfl


/-- the memory behind a new name: from the map's store, the append and the store of the field -/
theorem add_end {A : Option Addr} {c : Nat} {D : DataW Unit} {s : ByteArray} {w1 w2 : World} {v2 : Value}
    (hb : Blk w tb 59 #[.slice A l.length c, .map (some mb)]) (hr : (Value.slice A l.length c).ownBlock = r)
    (hrow : w.ownsRow base 9 1 (.slice A l.length c) l.length (strs l)) (hmap : w.ownsMap Try.prog 9 (plainElem Try.prog 3) mb l.length D) (hD : IdxD D l)
    (btb : base ≤ tb) (bmb : base ≤ mb) (hnd : l.Nodup) (hn : s ∉ l) (hroom : l.length < 1099511627776)
    (hmap1 : w1.ownsMap Try.prog 9 (plainElem Try.prog 3) mb (l.length + 1) (D.put (.string s.data.toList) (.lit (.int .i64 (l.length : Int))))) (hturn : w.mapTurned w1 mb)
    (hrow2 : w2.ownsRow base 9 1 v2 (l.length + 1) (strs l ++ [.string s])) (hg2 : (w1.alloc (.cells #[.string s] 9)).grownBy w2 (Value.slice A l.length c).ownBlock)
    (hat : v2.ownBlock = (Value.slice A l.length c).ownBlock ∨ v2.ownBlock = some (w1.alloc (.cells #[.string s] 9)).heap.size) :
    ∃ r', Tab (w2.setCell ⟨tb, 0, none⟩ v2) base tb mb r' (l ++ [s]) ∧ TabTurn w (w2.setCell ⟨tb, 0, none⟩ v2) tb mb r r' := by
  have hg1 := hturn.grown
  have htb := hb.lt
  have hmb := hmap.lt
  have hne1 : tb ≠ mb := blk_map_ne hb hmap
  have hne2 := own_map_ne hrow hmap
  have hne3 := own_blk_ne hrow hb (by decide)
  have hsz1 : w.heap.size ≤ w1.heap.size := hg1.size
  have hsz2 : w1.heap.size < w2.heap.size := by have := hg2.size; simp at this; omega
  have hblk2 : ∀ k, k < w1.heap.size → some k ≠ (Value.slice A l.length c).ownBlock → w2.heap[k]? = w1.heap[k]? := fun k hk hr =>
    (hg2.block k (by simp; omega) hr).trans (Below.heap_alloc w1 _ k hk)
  have hb2 : Blk w2 tb 59 #[.slice A l.length c, .map (some mb)] :=
    (hb.keep (hg1.block tb htb (by simpa using hne1))).keep (hblk2 tb (by omega) (fun e => hne3 e.symm))
  have hb3 := hb2.set_ 0 v2
  obtain ⟨g2, cap2, hv2⟩ := Joins.ownsRow_form hrow2 (by omega)
  have hrow3 : (w2.setCell ⟨tb, 0, none⟩ v2).ownsRow base 9 1 v2 (l.length + 1) (strs l ++ [.string s]) := by
    refine ownsRow_setCell_other hrow2 (fun e => ?_) _
    have := own_blk_ne hrow2 hb2 (by decide)
    exact this e
  have hmap2 : w2.ownsMap Try.prog 9 (plainElem Try.prog 3) mb (l.length + 1) (D.put (.string s.data.toList) (.lit (.int .i64 (l.length : Int)))) :=
    (hmap1.alloc _).kept hg2 (fun e => hne2 e.symm)
  have hmap3 := hmap2.setCell (a := ⟨tb, 0, none⟩) (fun e => hne1 e.symm) v2
  have hlen : (l ++ [s]).length = l.length + 1 := by simp
  refine ⟨v2.ownBlock, ⟨⟨some ⟨g2, 0, none⟩, cap2, _, ?_, ?_, ?_, ?_, hD.put hmap.isMap hn⟩, btb, bmb, ?_, by rw [hlen]; omega⟩, ?_⟩
  · subst hv2; rw [hlen]; exact hb3
  · rw [hv2]; rfl
  · rw [hlen, ← hv2, strs_snoc]; exact hrow3
  · rw [hlen]; exact hmap3
  · rw [List.nodup_append]; exact ⟨hnd, by simp, fun a ha b hb e => by simp at hb; exact hn (hb ▸ e ▸ ha)⟩
  · refine ⟨?_, ?_, ?_, ?_, ?_, ?_⟩
    · exact hg2.os.trans hg1.os
    · exact hg2.tape.trans hg1.tape
    · exact hg2.output.trans hg1.output
    · simp [World.setCell]; omega
    · intro k hk h1 h2 h3
      refine (Below.heap_setCell w2 ⟨tb, 0, none⟩ v2 k h1).trans ?_
      exact (hblk2 k (by omega) (fun e => h3 (e.trans hr))).trans (hg1.block k hk (fun e => h2 (Option.some.inj e)))
    · rcases hat with e | e
      · exact .inl (e.trans hr)
      · exact .inr ⟨_, e, by simp; omega⟩

set_option maxHeartbeats 800000 in
theorem add_new (h : Tab w base tb mb r l) {s : ByteArray} (hs : s.size ≤ maxLen) (hv : validB s.data.toList = true) (hn : s ∉ l) (hroom : l.length < 1099511627776) :
    Calls Try.prog 17 #[.pointer (some ⟨tb, 0, none⟩), .string s] w fun e w' => e = .returned (.tuple #[.int .i64 (l.length : Int), .int .i64 0]) ∧
      ∃ r', Tab w' base tb mb r' (l ++ [s]) ∧ TabTurn w w' tb mb r r' := by
  obtain ⟨A, c, D, hb, hr, hrow, hmap, hD⟩ := h.go
  have hbtb := h.btb
  have hbmb := h.bmb
  have HND := Lib.hid h.nodup
  have hlook := look_no hmap hD hs hn
  have HV := Lib.hid hv
  have hkey := WideMaps.keyOf_string_mk Try.underlying9 hs
  have HK := Lib.hid hkey
  have c0 := hb.cell 0
  have c1 := hb.cell 1
  simp at c0 c1
  have hne1 : tb ≠ mb := blk_map_ne hb hmap
  have hne2 := own_map_ne hrow hmap
  have hne3 := own_blk_ne hrow hb (by decide)
  have htb := hb.lt
  have hmbl := hmap.lt
  have hrl := hrow.lt
  obtain ⟨i0, hi, hz0, hz1, hz2⟩ := info_parts infoS
  have HB := Lib.hid hb
  have HROW := Lib.hid hrow
  have HMAP := Lib.hid hmap
  have HDD := Lib.hid hD
  have HR := Lib.hid hr
  have H1 := Lib.hid hne1
  have H2 := Lib.hid hne2
  have H3 := Lib.hid hne3
  have HRL := Lib.hid hrl
  have HN := Lib.hid hn
  clear h hb hmap hD hv hrow hkey hr hne1 hne2 hne3 hrl hn
  go_enter Try.func17, Try.ntmps17
  go_wp2_with (first
    | (go_at_call 10; refine (valid_val HV.out _ hs).mono ?_; rintro e w' ⟨rfl, rfl⟩)
    | (at_mapUpdate; refine wpList_mapUpdate_in _ rfl _ _ _ 57 rfl 9 3 lawS Try.underlying57 _ mb l.length D rfl HMAP.out (by unfold maxLen; omega) _ _ _ rfl rfl HK.out _ [] (plainElem_int Try.underlying3 (WalkArith.wf_i64 (by omega))) ?_; intro w1 hown1 hturn1; have hb1 : Blk w1 tb 59 #[.slice A l.length c, .map (some mb)] := HB.out.keep (hturn1.grown.block tb htb (by simpa using H1.out)); have c01 := hb1.cell 0; simp at c01; have HB1 := Lib.hid hb1; clear hb1; have HROW1 := Lib.hid (HROW.out.kept hturn1.grown (.inr H2.out)); have hsz1 : base ≤ w1.heap.size := Nat.le_trans hbtb (Nat.le_trans (Nat.le_of_lt htb) hturn1.grown.size); have htb1 : tb < w1.heap.size := Nat.lt_of_lt_of_le htb hturn1.grown.size; have HM1 := Lib.hid hown1; have HT1 := Lib.hid hturn1; clear hown1 hturn1)
    | (at_builtin; refine wpList_append_own_at _ rfl _ _ 24 rfl base 9 i0 (.string ⟨#[]⟩) 1 16 Try.underlying24 hi hz0 hz1 hz2 rfl (by decide) _ _ _ rfl (HROW1.out.alloc _) ⟨w1.heap.size, 0, none⟩ 1 1 [.string s] rfl rfl (cell_one_new _ _ _) (by intro u hu; simp at hu; subst hu; rfl) (by unfold maxLen; omega) (by omega) (by simp; omega) ?_; intro v2 w2 hown2 hg2 _ hat2; have hb2 := (HB1.out.alloc (.cells #[.string s] 9)).keep (hg2.block tb (by simp; omega) (fun e => H3.out e.symm)); have c02 := hb2.cell 0; have f02 := hb2.frozen 0; simp at c02; clear hb2; have hex := Joins.ownsRow_form hown2 (by omega); have HO2 := Lib.hid hown2; have HG2 := Lib.hid hg2; have HAT := Lib.hid hat2; clear hown2 hg2 hat2; obtain ⟨g2, cap2, hv2⟩ := hex; rw [hv2]; have HV2 := Lib.hid hv2; clear hv2))
  go_ret2
  have hend := add_end HB.out HR.out HROW.out HMAP.out HDD.out hbtb hbmb HND.out HN.out hroom HM1.out HT1.out HO2.out HG2.out HAT.out
  rw [HV2.out] at hend
  exact ⟨rfl, hend⟩
end
end Go.Proofs.Ytonlalfdpggioaa
