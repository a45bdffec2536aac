/- Contracts of the reference's Add. -/
import Derived.Test.YtonlalfdpggioaaRfind
import Derived.Deep.RegionLaw
import Derived.Deep.AppendLies
namespace Go.Proofs.Ytonlalfdpggioaa
open Go.RowKit Go.Maps

theorem run_append_of_nil {P : Program} (w : World) (t ty e : TypeId) (i : TypeInfo) (ht : P.underlying t = some (.slice e)) (hi : P.info? e = some i) (c : Nat) :
    (Builtin.append_ #[t, t] ty #[.slice none 0 0, .slice none 0 c]).run P w = .ok (.slice none 0 0) w := by
  simp [Builtin.append_, run_underlying ht, sizeOf, typeInfo, hi, Builtin.lenOf, Builtin.firstCells]

section
variable {w : World} {A : Option Addr} {n c : Nat} {l : List ByteArray}
theorem find_first {l : List ByteArray} {s : ByteArray} (h : s ∈ l) : ∃ m : Nat, l[m]? = some s ∧ ∀ j : Nat, j < m → l[j]? ≠ some s := by
  induction l with
  | nil => simp at h
  | cons t r ih =>
    by_cases e : t = s
    · exact ⟨0, by simp [e], fun j hj => by omega⟩
    · have hr : s ∈ r := by
        rcases List.mem_cons.1 h with h1 | h1
        · exact absurd h1.symm e
        · exact h1
      obtain ⟨m, hm, hj⟩ := ih hr
      refine ⟨m + 1, by simpa using hm, fun j hlt => ?_⟩
      cases j with
      | zero => simpa using e
      | succ j => simpa using hj j (by omega)

set_option maxHeartbeats 400000 in
theorem radd_name {s : ByteArray} (hs : s.size ≤ maxLen) (hv : validB s.data.toList = false) :
    Calls Try.prog 18 #[.agg #[.slice A n c], .string s] w fun e w' => e = .returned (.tuple #[.agg #[.slice A n c], .int .i64 0, .int .i64 5]) ∧ Below w.heap.size w w' := by
  have HV := Lib.hid hv
  clear hv
  go_enter Try.func18, Try.ntmps18
  go_wp2_with (go_at_call 11; refine (rvalid_val HV.out _ hs).mono ?_; rintro e w' ⟨rfl, rfl⟩)
  go_returns
  refine ⟨rfl, ?_⟩
  go_grown

set_option maxHeartbeats 400000 in
theorem radd_twice (h : RdS w (· < w.heap.size) A n (strs l)) (hn : n ≤ 1099511627776) {s : ByteArray} (hs : s.size ≤ maxLen) (hv : validB s.data.toList = true) (hm : s ∈ l) :
    Calls Try.prog 18 #[.agg #[.slice A n c], .string s] w fun e w' => e = .returned (.tuple #[.agg #[.slice A n c], .int .i64 0, .int .i64 6]) ∧ Below w.heap.size w w' := by
  have HV := Lib.hid hv
  clear hv
  obtain ⟨m, h1, h2⟩ := find_first hm
  have H1 := Lib.hid h1
  have H2 := Lib.hid h2
  have HR := Lib.hid h
  clear hm h1 h2 h
  go_enter Try.func18, Try.ntmps18
  go_wp2_with fail
  refine (rvalid_val HV.out _ hs).mono ?_
  rintro e w' ⟨rfl, rfl⟩
  go_wp2_with fail
  have hb1 : Below w.heap.size w ((w.alloc (.cells #[.slice A n c] 31)).alloc (.cells #[.slice none 0 0] 31)) := by go_grown
  refine (rfind_yes (HR.out.up hb1) hn H1.out H2.out).mono ?_
  rintro e w1 ⟨rfl, hb2⟩
  have HB1 := Lib.hid hb1
  have HB2 := Lib.hid hb2
  have k0 := ((Blk.new w 31 #[.slice A n c]).alloc (.cells #[.slice none 0 0] 31)).grow hb2
  have k1 := (Blk.new1 w (.cells #[.slice A n c] 31) 31 #[.slice none 0 0]).grow hb2
  have c0 := k0.cell 0
  have c1 := k1.cell 0
  have f1 := k1.frozen 0
  simp at c0 c1
  have hz := hb2.size
  simp at hz
  have c2 := (k1.set_ 0 (.slice A n c)).cell 0
  simp at c2
  clear hb1 hb2 k0 k1
  go_wp2
  refine bodyPost_ret (v := .tuple #[.agg #[.slice A n c], .int .i64 0, .int .i64 6]) (by simp [results, Try.results18, go_sem, c2]) rfl ⟨rfl, ?_⟩
  exact ((HB1.out.trans (HB2.out.mono (by simp; omega))).setCell (by simp) _)

theorem radd_end {w2 w3 : World} {v1 x : Value} {xs ys : List Value} {o : Obj} {g cap m : Nat} {cs : Array Value} (hB : Below w.heap.size w w2) (h1 : w2.ownsRow w.heap.size 9 1 v1 n xs)
    (hg : (w2.alloc o).drew.grownBy w3 v1.ownBlock) (k1 : Blk w3 (w.heap.size + 1) 31 cs) (h3 : w3.ownsRow w.heap.size 9 1 (.slice (some ⟨g, 0, none⟩) m cap) m ys) :
    (w3.setCell ⟨w.heap.size + 1, 0, none⟩ x).ownsRow w.heap.size 9 1 (.slice (some ⟨g, 0, none⟩) m cap) m ys ∧ Below w.heap.size w (w3.setCell ⟨w.heap.size + 1, 0, none⟩ x) := by
  refine ⟨ownsRow_setCell_other h3 (own_blk_ne h3 k1 (by decide)) _, Below.setCell (Below.grown ((hB.alloc hB.size o).drew) hg (by simp; exact Nat.le_succ_of_le hB.size) (fun k hk => (h1.lt k hk).1)) (by simp) _⟩

set_option maxHeartbeats 800000 in
theorem radd_new_nil {s : ByteArray} (hs : s.size ≤ maxLen) (hv : validB s.data.toList = true) :
    Calls Try.prog 18 #[.agg #[.slice none 0 c], .string s] w fun e w' => ∃ g c', e = .returned (.tuple #[.agg #[.slice (some ⟨g, 0, none⟩) 1 c'], .int .i64 0, .int .i64 0]) ∧
      w'.ownsRow w.heap.size 9 1 (.slice (some ⟨g, 0, none⟩) 1 c') 1 (strs [s]) ∧ Below w.heap.size w w' := by
  have HV := Lib.hid hv
  clear hv
  obtain ⟨i0, hi, hz0, hz1, hz2⟩ := info_parts infoS
  go_enter Try.func18, Try.ntmps18
  go_wp2_with fail
  refine (rvalid_val HV.out _ hs).mono ?_
  rintro e w' ⟨rfl, rfl⟩
  go_wp2_with fail
  have hb1 : Below w.heap.size w ((w.alloc (.cells #[.slice none 0 c] 31)).alloc (.cells #[.slice none 0 0] 31)) := by go_grown
  refine (rfind_no (l := []) (A := none) (n := 0) (c := c) RdS.none_ (by decide) (by simp)).mono ?_
  rintro e w1 ⟨rfl, hb2⟩
  have HB1 := Lib.hid hb1
  have HB2 := Lib.hid hb2
  have k0 := ((Blk.new w 31 #[.slice none 0 c]).alloc (.cells #[.slice none 0 0] 31)).grow hb2
  have k1 := (Blk.new1 w (.cells #[.slice none 0 c] 31) 31 #[.slice none 0 0]).grow hb2
  have c0 := k0.cell 0
  simp at c0
  have hz := hb2.size
  simp at hz
  have K0 := Lib.hid k0
  have K1 := Lib.hid k1
  clear hb1 hb2 k0 k1
  have c0a := (K0.out.alloc (.cells #[.string s] 9)).cell 0
  simp at c0a
  go_wp2
  go_region_law (refine step_append_lies _ rfl (.tmp 26) (.tmp 28) 24 rfl w.heap.size 9 i0 (.string ⟨#[]⟩) 1 16 Try.underlying24 hi hz0 hz1 hz2 rfl (by decide) (.slice none 0 0) 0 [] (by first | (simp [Act.eval]; done) | (simp [Act.eval, Act.put]; done)) (World.ownsRow_nil _ _ _ _) ⟨w1.heap.size, 0, none⟩ 1 1 [.string s] (by first | (simp [Act.eval]; done) | (simp [Act.eval, Act.put]; done)) rfl (cell_one_new _ _ _) (by intro u hu; simp at hu; subst hu; rfl) (by decide) (by unfold maxLen; omega) (by omega) (by simp; omega) _ rfl ?_; intro g cap w2 hown2 hg2 hat hlt2; have k0 := K0.out.keepG _ hg2 (by simp [Value.ownBlock]); have k1 := K1.out.keepG _ hg2 (by simp [Value.ownBlock]); have d0 := k0.cell 0; have d1 := k1.cell 0; have e1 := k1.frozen 0; simp at d0 d1; have d2 := (k1.set_ 0 (.slice (some ⟨g, 0, none⟩) 1 cap)).cell 0; simp at d2; have HO := Lib.hid hown2; have HG := Lib.hid hg2; have HKK := Lib.hid k1; clear hown2 hg2 k0 k1 hat)
  all_goals
    go_wp2
    refine bodyPost_ret (v := .tuple #[.agg #[.slice (some ⟨g, 0, none⟩) 1 cap], .int .i64 0, .int .i64 0]) (by simp [results, Try.results18, go_sem, d2]) rfl ⟨g, cap, rfl, ?_⟩
    exact radd_end (HB1.out.trans (HB2.out.mono (by simp; omega))) (World.ownsRow_nil _ _ _ _) HG.out HKK.out HO.out
end
end Go.Proofs.Ytonlalfdpggioaa
