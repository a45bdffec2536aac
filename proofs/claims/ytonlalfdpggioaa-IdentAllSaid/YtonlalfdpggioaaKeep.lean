/- Add, with the word that the names that a table had stay readable where they lay; All of a table (for IdentAll). -/
import Derived.Test.YtonlalfdpggioaaIter
import Derived.Test.YtonlalfdpggioaaPlays
import Derived.ArgAppend
import Derived.Deep.RegionHeld3
import Derived.RegionTactic
import Derived.StillTailTactics
namespace Go.Proofs.Ytonlalfdpggioaa
open Go.RowKit Go.Maps

theorem grownBy_any {w w' : World} (h : w.grownBy w' none) (row : Option Nat) : w.grownBy w' row := ⟨h.os, h.tape, h.output, h.size, fun i hi _ => h.block i hi (by simp)⟩
theorem own_base {w : World} {base base' : Nat} {e : TypeId} {size n : Nat} {v : Value} {xs : List Value} (h : w.ownsRow base e size v n xs) (hb : base' ≤ base) : w.ownsRow base' e size v n xs := by
  refine ⟨h.1, ?_⟩
  rcases h.2 with h2 | ⟨g, cap, cur, rfl, hg, rest⟩
  · exact .inl h2
  · exact .inr ⟨g, cap, cur, rfl, by omega, rest⟩
/-- append of one cell: where the new row lies, and that the old row's cells read as before -/
theorem run_append_keep {P : Program} (w : World) (base : Nat) (t ty e : TypeId) (i : TypeInfo) (z : Value) (bytes : Nat) (ht : P.underlying t = some (.slice e)) (hi : P.info? e = some i) (hz : i.zero = some z)
    (hsize : i.size = 1) (hby : i.bytes = bytes) (hzs : z.cells.size = 1)
    (v : Value) (n : Nat) (xs : List Value) (hown : w.ownsRow base e 1 v n xs)
    (a : Addr) (c : Nat) (x : Value) (hnew : ∀ j u, [x][j]? = some u → w.cell? (a.add j) = some u) (h1 : ∀ u ∈ [x], u.oneCell' = true)
    (h63 : n + 1 ≤ maxLen) (hbytes : (n + 1) * bytes ≤ 140737488355328) (hbase : base ≤ w.heap.size) :
    ∃ v' w', (Builtin.append_ #[t, t] ty #[v, .slice (some a) 1 c]).run P w = .ok v' w' ∧ w'.ownsRow base e 1 v' (n + 1) (xs ++ [x]) ∧ w.grownBy w' v.ownBlock ∧
      (v'.ownBlock = v.ownBlock ∨ ∃ g, v'.ownBlock = some g ∧ w.heap.size ≤ g) ∧ (∀ g, v.ownBlock = some g → ∀ j u, xs[j]? = some u → w'.cell? ⟨g, j, none⟩ = some u) := by
  have hadd : ∀ g j : Nat, (⟨g, 0, none⟩ : Addr).add j = ⟨g, j, none⟩ := fun g j => by unfold Addr.add; split <;> simp_all
  obtain ⟨v', w', hrun, hown', hgr, _, hat⟩ := run_append_own_at (P := P) w base t ty e i z 1 bytes ht hi hz hsize hby hzs (by decide) v n xs hown a 1 c [x] rfl hnew h1 h63 hbytes hbase
  rcases hown.2 with ⟨rfl, rfl⟩ | ⟨g, cap, cur, rfl, hbg, hgg, hncap, hcm, hcs, htk⟩
  · refine ⟨v', w', hrun, hown', hgr, ?_, fun g hg => by simp [Value.ownBlock] at hg⟩
    rcases hat with h | h
    · exact .inl h
    · exact .inr ⟨_, h, Nat.le_refl _⟩
  · by_cases hroom : n + 1 ≤ cap
    · have hr := run_append_room (P := P) w t ty e i ht hi g n cap cur hgg a 1 c [x] (by rw [hsize]; rfl) hnew h1 hroom (by rw [hsize, hcs]; simp; omega)
      rw [hrun] at hr
      injection hr with e1 e2
      refine ⟨v', w', hrun, hown', hgr, .inl (by rw [e1]; rfl), fun g' hg j u hu => ?_⟩
      have hgg' : v'.ownBlock = some g' := by rw [e1]; exact hg
      have h2 := hown'.cells hgg' j u (by rw [List.getElem?_append_left (by
        rcases Nat.lt_or_ge j xs.length with h | h
        · exact h
        · rw [List.getElem?_eq_none h] at hu; cases hu)]; exact hu)
      rwa [hadd] at h2
    · obtain ⟨v2, w2, hrun2, hown2, hgr2⟩ := run_append_arg_grows (P := P) w t ty e i z 1 bytes ht hi hz hsize hby hzs (by decide) ⟨g, 0, none⟩ n cap xs hown.1 (hown.cells (g := g) rfl) a 1 c [x] rfl hnew (by omega) h63 hbytes
      refine ⟨v2, w2, hrun2, own_base hown2 hbase, grownBy_any hgr2 _, ?_, fun g' hg j u hu => ?_⟩
      · obtain ⟨g2, cap2, rfl⟩ := Joins.ownsRow_form hown2 (by omega)
        exact .inr ⟨g2, rfl, (hown2.lt g2 rfl).1⟩
      · have hg' : g = g' := by simpa [Value.ownBlock] using hg
        subst hg'
        have h2 := hown.cells (g := g) rfl j u hu
        rw [hadd] at h2
        exact (World.cell?_of_block (a := ⟨g, j, none⟩) (hgr2.block g (Array.getElem?_eq_some_iff.1 hgg).1 (by simp))).trans h2
theorem wpList_append_keep {P : Program} (w : World) {ops : Array Oper} {rest : List Oper} {o : Oper} {a : Act} {Q : Exit → Act → World → Prop}
    (hg : o.guard = none) (s x : Operand) (t : TypeId) (hop : o.op = Op.call { callee := Callee.builtin Builtin.append, args := #[s, x], argTypes := #[t, t] })
    (base : Nat) (e : TypeId) (i : TypeInfo) (z : Value) (bytes : Nat) (ht : P.underlying t = some (.slice e)) (hi : P.info? e = some i) (hz : i.zero = some z)
    (hsize : i.size = 1) (hby : i.bytes = bytes) (hzs : z.cells.size = 1)
    (v : Value) (n : Nat) (xs : List Value) (hs : a.eval s = v) (hown : w.ownsRow base e 1 v n xs)
    (ad : Addr) (c : Nat) (y : Value) (hx : a.eval x = .slice (some ad) 1 c) (hnew : ∀ j u, [y][j]? = some u → w.cell? (ad.add j) = some u) (h1 : ∀ u ∈ [y], u.oneCell' = true)
    (h63 : n + 1 ≤ maxLen) (hbytes : (n + 1) * bytes ≤ 140737488355328) (hbase : base ≤ w.heap.size)
    (hK : ∀ v' w', w'.ownsRow base e 1 v' (n + 1) (xs ++ [y]) → w.grownBy w' v.ownBlock → (v'.ownBlock = v.ownBlock ∨ ∃ g, v'.ownBlock = some g ∧ w.heap.size ≤ g) → (∀ g, v.ownBlock = some g → ∀ j u, xs[j]? = some u → w'.cell? ⟨g, j, none⟩ = some u) → wpList P ops Q rest (a.put o.dst v') w') :
    wpList P ops Q (o :: rest) a w := by
  obtain ⟨v', w', hrun, h2, h3, h4, h5⟩ := run_append_keep (P := P) w base t o.type e i z bytes ht hi hz hsize hby hzs v n xs hown ad c y hnew h1 h63 hbytes hbase
  refine wpList_plain hg fun K hK' => ?_
  unfold Oper.wp execOp
  simp only [hop, resolve, invoke, builtin, Sem.run_bind, Sem.run_pure, Result.andThen_ok, List.map_toArray, List.map_cons, List.map_nil, hs, hx, hrun]
  exact hK' _ _ (hK v' w' h2 h3 h4 h5)
section
variable {w w' : World} {base tb mb n : Nat} {r : Option Nat} {l : List ByteArray}
/-- the memory behind a new name: from the map's store, the append and the store of the field -/
theorem add_end2 {A : Option Addr} {c : Nat} {D : DataW Unit} {s : ByteArray} {w1 w2 : World} {v2 : Value}
    (hb : Blk w tb 59 #[.slice A l.length c, .map (some mb)]) (hr : (Value.slice A l.length c).ownBlock = r)
    (hrow : w.ownsRow base 9 1 (.slice A l.length c) l.length (strs l)) (hmap : w.ownsMap Try.prog 9 (plainElem Try.prog 3) mb l.length D) (hD : IdxD D l)
    (btb : base ≤ tb) (bmb : base ≤ mb) (hnd : l.Nodup) (hn : s ∉ l) (hroom : l.length < 1099511627776)
    (hmap1 : w1.ownsMap Try.prog 9 (plainElem Try.prog 3) mb (l.length + 1) (D.put (.string s.data.toList) (.lit (.int .i64 (l.length : Int))))) (hturn : w.mapTurned w1 mb)
    (hrow2 : w2.ownsRow base 9 1 v2 (l.length + 1) (strs l ++ [.string s])) (hg2 : (w1.alloc (.cells #[.string s] 9)).grownBy w2 (Value.slice A l.length c).ownBlock)
    (hat : v2.ownBlock = (Value.slice A l.length c).ownBlock ∨ ∃ g, v2.ownBlock = some g ∧ (w1.alloc (.cells #[.string s] 9)).heap.size ≤ g)
    (hkeep : ∀ g, (Value.slice A l.length c).ownBlock = some g → ∀ j u, (strs l)[j]? = some u → w2.cell? ⟨g, j, none⟩ = some u) :
    ∃ r', Tab (w2.setCell ⟨tb, 0, none⟩ v2) base tb mb r' (l ++ [s]) ∧ TabTurn w (w2.setCell ⟨tb, 0, none⟩ v2) tb mb r r' ∧ ∀ g, r = some g → ∀ j u, (strs l)[j]? = some u → (w2.setCell ⟨tb, 0, none⟩ v2).cell? ⟨g, j, none⟩ = some u := by
  have hg1 := hturn.grown
  have htb := hb.lt
  have hmb := hmap.lt
  have hne1 : tb ≠ mb := blk_map_ne hb hmap
  have hne2 := own_map_ne hrow hmap
  have hne3 := own_blk_ne hrow hb (by decide)
  have hsz1 : w.heap.size ≤ w1.heap.size := hg1.size
  have hsz2 : w1.heap.size < w2.heap.size := by have := hg2.size; simp at this; omega
  have hblk2 : ∀ k, k < w1.heap.size → some k ≠ (Value.slice A l.length c).ownBlock → w2.heap[k]? = w1.heap[k]? := fun k hk hr =>
    (hg2.block k (by simp; omega) hr).trans (Below.heap_alloc w1 _ k hk)
  have hb2 : Blk w2 tb 59 #[.slice A l.length c, .map (some mb)] :=
    (hb.keep (hg1.block tb htb (by simpa using hne1))).keep (hblk2 tb (by omega) (fun e => hne3 e.symm))
  have hb3 := hb2.set_ 0 v2
  obtain ⟨g2, cap2, hv2⟩ := Joins.ownsRow_form hrow2 (by omega)
  have hrow3 : (w2.setCell ⟨tb, 0, none⟩ v2).ownsRow base 9 1 v2 (l.length + 1) (strs l ++ [.string s]) := by
    refine ownsRow_setCell_other hrow2 (fun e => ?_) _
    have := own_blk_ne hrow2 hb2 (by decide)
    exact this e
  have hmap2 : w2.ownsMap Try.prog 9 (plainElem Try.prog 3) mb (l.length + 1) (D.put (.string s.data.toList) (.lit (.int .i64 (l.length : Int)))) :=
    (hmap1.alloc _).kept hg2 (fun e => hne2 e.symm)
  have hmap3 := hmap2.setCell (a := ⟨tb, 0, none⟩) (fun e => hne1 e.symm) v2
  have hlen : (l ++ [s]).length = l.length + 1 := by simp
  refine ⟨v2.ownBlock, ⟨⟨some ⟨g2, 0, none⟩, cap2, _, ?_, ?_, ?_, ?_, hD.put hmap.isMap hn⟩, btb, bmb, ?_, by rw [hlen]; omega⟩, ?_⟩
  · subst hv2; rw [hlen]; exact hb3
  · rw [hv2]; rfl
  · rw [hlen, ← hv2, strs_snoc]; exact hrow3
  · rw [hlen]; exact hmap3
  · rw [List.nodup_append]; exact ⟨hnd, by simp, fun a ha b hb e => by simp at hb; exact hn (hb ▸ e ▸ ha)⟩
  refine ⟨?_, fun g hg j u hu => ?_⟩
  · refine ⟨?_, ?_, ?_, ?_, ?_, ?_⟩
    · exact hg2.os.trans hg1.os
    · exact hg2.tape.trans hg1.tape
    · exact hg2.output.trans hg1.output
    · simp [World.setCell]; omega
    · intro k hk h1 h2 h3
      refine (Below.heap_setCell w2 ⟨tb, 0, none⟩ v2 k h1).trans ?_
      exact (hblk2 k (by omega) (fun e => h3 (e.trans hr))).trans (hg1.block k hk (fun e => h2 (Option.some.inj e)))
    · rcases hat with e | e
      · exact .inl (e.trans hr)
      · obtain ⟨g, e, hge⟩ := e
        exact .inr ⟨g, e, by simp at hge; omega⟩
  · rw [← hr] at hg
    have hgt : g ≠ tb := fun e => hne3 (e ▸ hg)
    exact (World.cell?_setCell_other w2 ⟨tb, 0, none⟩ ⟨g, j, none⟩ v2 (fun e => hgt (by have := congrArg Addr.block e; simp at this; omega))).trans (hkeep g hg j u hu)

set_option maxHeartbeats 800000 in
theorem add_keep (h : Tab w base tb mb r l) {s : ByteArray} (hs : s.size ≤ maxLen) (hv : validB s.data.toList = true) (hn : s ∉ l) (hroom : l.length < 1099511627776) :
    Calls Try.prog 17 #[.pointer (some ⟨tb, 0, none⟩), .string s] w fun e w' => e = .returned (.tuple #[.int .i64 (l.length : Int), .int .i64 0]) ∧
      ∃ r', Tab w' base tb mb r' (l ++ [s]) ∧ TabTurn w w' tb mb r r' ∧ ∀ g, r = some g → ∀ j u, (strs l)[j]? = some u → w'.cell? ⟨g, j, none⟩ = some u := by
  obtain ⟨A, c, D, hb, hr, hrow, hmap, hD⟩ := h.go
  have hbtb := h.btb
  have hbmb := h.bmb
  have HND := Lib.hid h.nodup
  have hlook := look_no hmap hD hs hn
  have HV := Lib.hid hv
  have hkey := WideMaps.keyOf_string_mk Try.underlying9 hs
  have HK := Lib.hid hkey
  have c0 := hb.cell 0
  have c1 := hb.cell 1
  simp at c0 c1
  have hne1 : tb ≠ mb := blk_map_ne hb hmap
  have hne2 := own_map_ne hrow hmap
  have hne3 := own_blk_ne hrow hb (by decide)
  have htb := hb.lt
  have hmbl := hmap.lt
  have hrl := hrow.lt
  obtain ⟨i0, hi, hz0, hz1, hz2⟩ := info_parts infoS
  have HB := Lib.hid hb
  have HROW := Lib.hid hrow
  have HMAP := Lib.hid hmap
  have HDD := Lib.hid hD
  have HR := Lib.hid hr
  have H1 := Lib.hid hne1
  have H2 := Lib.hid hne2
  have H3 := Lib.hid hne3
  have HRL := Lib.hid hrl
  have HN := Lib.hid hn
  clear h hb hmap hD hv hrow hkey hr hne1 hne2 hne3 hrl hn
  go_enter Try.func17, Try.ntmps17
  go_wp2_with (first
    | (go_at_call 10; refine (valid_val HV.out _ hs).mono ?_; rintro e w' ⟨rfl, rfl⟩)
    | (at_mapUpdate; refine wpList_mapUpdate_in _ rfl _ _ _ 57 rfl 9 3 lawS Try.underlying57 _ mb l.length D rfl HMAP.out (by unfold maxLen; omega) _ _ _ rfl rfl HK.out _ [] (plainElem_int Try.underlying3 (WalkArith.wf_i64 (by omega))) ?_; intro w1 hown1 hturn1; have hb1 : Blk w1 tb 59 #[.slice A l.length c, .map (some mb)] := HB.out.keep (hturn1.grown.block tb htb (by simpa using H1.out)); have c01 := hb1.cell 0; simp at c01; have HB1 := Lib.hid hb1; clear hb1; have HROW1 := Lib.hid (HROW.out.kept hturn1.grown (.inr H2.out)); have hsz1 : base ≤ w1.heap.size := Nat.le_trans hbtb (Nat.le_trans (Nat.le_of_lt htb) hturn1.grown.size); have htb1 : tb < w1.heap.size := Nat.lt_of_lt_of_le htb hturn1.grown.size; have HM1 := Lib.hid hown1; have HT1 := Lib.hid hturn1; clear hown1 hturn1)
    | (at_builtin; refine wpList_append_keep _ rfl _ _ 24 rfl base 9 i0 (.string ⟨#[]⟩) 16 Try.underlying24 hi hz0 hz1 hz2 rfl _ _ _ rfl (HROW1.out.alloc _) ⟨w1.heap.size, 0, none⟩ 1 (.string s) rfl (cell_one_new _ _ _) (by intro u hu; simp at hu; subst hu; rfl) (by unfold maxLen; omega) (by omega) (by simp; omega) ?_; intro v2 w2 hown2 hg2 hat2 hkp2; have HKP := Lib.hid hkp2; have hb2 := (HB1.out.alloc (.cells #[.string s] 9)).keep (hg2.block tb (by simp; omega) (fun e => H3.out e.symm)); have c02 := hb2.cell 0; have f02 := hb2.frozen 0; simp at c02; clear hb2; have hex := Joins.ownsRow_form hown2 (by omega); have HO2 := Lib.hid hown2; have HG2 := Lib.hid hg2; have HAT := Lib.hid hat2; clear hown2 hg2 hat2 hkp2; obtain ⟨g2, cap2, hv2⟩ := hex; rw [hv2]; have HV2 := Lib.hid hv2; clear hv2))
  go_ret2
  have hend := add_end2 HB.out HR.out HROW.out HMAP.out HDD.out hbtb hbmb HND.out HN.out hroom HM1.out HT1.out HO2.out HG2.out HAT.out HKP.out
  rw [HV2.out] at hend
  exact ⟨rfl, hend⟩

set_option maxRecDepth 100000 in
set_option maxHeartbeats 1600000 in
theorem all_tab (h : Tab w base tb mb r l) :
    Calls Try.prog 24 #[.pointer (some ⟨tb, 0, none⟩)] w fun e w' => ∃ A, e = .returned (.func (.func 27) #[] #[.pointer (some ⟨w.heap.size, 0, none⟩)]) ∧
      Blk w' w.heap.size 24 #[.slice A l.length l.length] ∧ (∀ a, A = some a → ∃ g, a = ⟨g, 0, none⟩ ∧ r = some g) ∧ RdS w (· < w.heap.size) A l.length (strs l) ∧ Below w.heap.size w w' := by
  obtain ⟨A, c, D, hb, hr, hrow, _, _⟩ := h.go
  have hcap : l.length ≤ c ∧ (∀ a, A = some a → ∃ g, a = ⟨g, 0, none⟩ ∧ r = some g) := by
    rcases hrow.2 with ⟨e1, e2⟩ | ⟨g, cap, cur, e1, _, _, e2, _⟩
    · injection e1 with a1 a2 a3
      exact ⟨by omega, fun a ha => by rw [a1] at ha; cases ha⟩
    · injection e1 with a1 a2 a3
      refine ⟨by omega, fun a ha => ⟨g, ?_, ?_⟩⟩
      · rw [a1] at ha; exact (Option.some.inj ha).symm
      · rw [← hr, a1]; rfl
  have HRD := Lib.hid ((RdS.of_own hrow).mono fun b hb => hb.2.1)
  have HB := Lib.hid (hb.alloc (.cells #[.slice none 0 0] 24))
  have hf := h.fits
  have hlt := hb.lt
  have HC := Lib.hid hcap.2
  have hc := hcap.1
  clear h hb hrow hcap hr
  have hl0 : (0 : Int) ≤ (l.length : Int) := by omega
  have hl1 : (l.length : Int) ≤ (c : Int) := by omega
  go_enter Try.func24, Try.ntmps24
  go_wp2
  have hk1 := Blk.new w 24 #[.slice none 0 0]
  have hk0 := HB.out
  obtain ⟨w1, hw1, hb1⟩ : ∃ w1, w.alloc (.cells #[.slice none 0 0] 24) = w1 ∧ Below w.heap.size w w1 := ⟨_, rfl, by go_grown⟩
  rw [hw1] at hk0 hk1 ⊢
  have c0 := hk0.cell 0
  have hd := hk1.cell 0
  have hfr := hk1.frozen 0
  simp at c0 hd
  have HB1 := Lib.hid hb1
  have HK1 := Lib.hid hk1
  clear hw1 hlt hb1 hk1 hk0 HB
  refine wp_region_still_tail 15 (by kernel_rfl) (by kernel_rfl) ?_
  simp only [List.take_succ_cons, List.take_zero, List.drop_succ_cons, List.drop_zero]
  repeat still_step
  refine wpStill_nil ?_
  go_wp2
  go_ret
  exact ⟨A, rfl, HK1.out.set_ 0 (.slice A l.length l.length), HC.out, HRD.out, (HB1.out.setCell (Nat.le_refl _) _).drew⟩
end
end Go.Proofs.Ytonlalfdpggioaa
