/- The reference's Add: a new name behind names that have an address. -/
import Derived.Test.YtonlalfdpggioaaRadd
namespace Go.Proofs.Ytonlalfdpggioaa
open Go.RowKit Go.Maps

section
variable {w : World} {n c : Nat} {l : List ByteArray}
set_option maxHeartbeats 1600000 in
theorem radd_new_some {ad : Addr} (h : RdS w (· < w.heap.size) (some ad) n (strs l)) (had : ∀ (w' : World) (j : Nat) (u : Value), RdS w' (· < w'.heap.size) (some ad) n (strs l) → (strs l)[j]? = some u → w'.cell? (ad.add j) = some u) (hn : n ≤ 1099511627776) {s : ByteArray} (hs : s.size ≤ maxLen) (hv : validB s.data.toList = true) (hno : s ∉ l) :
    Calls Try.prog 18 #[.agg #[.slice (some ad) n c], .string s] w fun e w' => ∃ g c', e = .returned (.tuple #[.agg #[.slice (some ⟨g, 0, none⟩) (n + 1) c'], .int .i64 (n : Int), .int .i64 0]) ∧
      w'.ownsRow w.heap.size 9 1 (.slice (some ⟨g, 0, none⟩) (n + 1) c') (n + 1) (strs (l ++ [s])) ∧ Below w.heap.size w w' := by
  have HV := Lib.hid hv
  have HR := Lib.hid h
  have HNO := Lib.hid hno
  have HAD := Lib.hid had
  have hlen : (strs l).length = n * 1 := by rw [Nat.mul_one]; exact h.1
  have HL := Lib.hid hlen
  clear hv h hno had hlen
  obtain ⟨i0, hi, hz0, hz1, hz2⟩ := info_parts infoS
  go_enter Try.func18, Try.ntmps18
  go_wp2_with fail
  refine (rvalid_val HV.out _ hs).mono ?_
  rintro e w' ⟨rfl, rfl⟩
  go_wp2_with fail
  have hb1 : Below w.heap.size w ((w.alloc (.cells #[.slice (some ad) n c] 31)).alloc (.cells #[.slice none 0 0] 31)) := by go_grown
  refine (rfind_no (HR.out.up hb1) hn HNO.out).mono ?_
  rintro e w1 ⟨rfl, hb2⟩
  have hb3 := hb1.trans (hb2.mono (by simp; omega))
  have HB1 := Lib.hid hb3
  have HR1 := Lib.hid (HR.out.up hb3)
  have k0 := ((Blk.new w 31 #[.slice (some ad) n c]).alloc (.cells #[.slice none 0 0] 31)).grow hb2
  have k1 := (Blk.new1 w (.cells #[.slice (some ad) n c] 31) 31 #[.slice none 0 0]).grow hb2
  have c0 := k0.cell 0
  simp at c0
  have hz := hb2.size
  simp at hz
  have K0 := Lib.hid k0
  have K1 := Lib.hid k1
  clear hb1 hb2 hb3 k0 k1
  go_wp2_with (at_builtin; refine wpList_append_own_at _ rfl (.tmp 22) (.tmp 24) 24 rfl w.heap.size 9 i0 (.string ⟨#[]⟩) 1 16 Try.underlying24 hi hz0 hz1 hz2 rfl (by decide) (.slice none 0 0) 0 [] rfl (World.ownsRow_nil _ _ _ _) ad n c (strs l) rfl HL.out (fun j u hu => HAD.out _ j u HR1.out hu) (strs_one l) (by unfold maxLen; omega) (by omega) (by omega) ?_; intro v1 w2 hown2 hg2 _ _; have k0 := K0.out.keep (hg2.block _ K0.out.lt (by simp [Value.ownBlock])); have k1 := K1.out.keep (hg2.block _ K1.out.lt (by simp [Value.ownBlock])); have c0a := (k0.alloc (.cells #[.string s] 9)).cell 0; have c0b := k0.cell 0; simp at c0a c0b; have HB2 := Lib.hid (HB1.out.trans (⟨hg2.os, hg2.tape, hg2.output, hg2.size, fun k hk => hg2.block k (by omega) (by simp [Value.ownBlock])⟩ : Below w.heap.size w1 w2)); have hz2a := hg2.size; have HO1 := Lib.hid hown2; have K0a := Lib.hid k0; have K1a := Lib.hid k1; clear hown2 hg2 k0 k1 c0)
  go_region_law (refine step_append_lies _ rfl (.tmp 26) (.tmp 28) 24 rfl w.heap.size 9 i0 (.string ⟨#[]⟩) 1 16 Try.underlying24 hi hz0 hz1 hz2 rfl (by decide) v1 (0 + n) ([] ++ strs l) (by first | (simp [Act.eval]; done) | (simp [Act.eval, Act.put]; done)) (HO1.out.alloc _) ⟨w2.heap.size, 0, none⟩ 1 1 [.string s] (by first | (simp [Act.eval]; done) | (simp [Act.eval, Act.put]; done)) rfl (cell_one_new _ _ _) (by intro u hu; simp at hu; subst hu; rfl) (by decide) (by unfold maxLen; omega) (by omega) (by simp; omega) _ rfl ?_; intro g cap w3 hown2 hg2 hat hlt2; have k0 := K0a.out.keepG _ hg2 (fun e => own_blk_ne HO1.out K0a.out (by decide) e.symm); have k1 := K1a.out.keepG _ hg2 (fun e => own_blk_ne HO1.out K1a.out (by decide) e.symm); have d0 := k0.cell 0; have d1 := k1.cell 0; have e1 := k1.frozen 0; simp at d0 d1; have d2 := (k1.set_ 0 (.slice (some ⟨g, 0, none⟩) (n + 1) cap)).cell 0; simp at d2; rw [Nat.zero_add] at hown2; rw [Nat.zero_add]; have HO := Lib.hid hown2; have HG := Lib.hid hg2; have HKK := Lib.hid k1; clear hown2 hg2 k0 k1 hat)
  all_goals
    go_wp2
    refine bodyPost_ret (v := .tuple #[.agg #[.slice (some ⟨g, 0, none⟩) (n + 1) cap], .int .i64 (n : Int), .int .i64 0]) (by simp [results, Try.results18, go_sem, d2]) rfl ⟨g, cap, rfl, ?_⟩
    have hr := radd_end (x := .slice (some ⟨g, 0, none⟩) (n + 1) cap) HB2.out HO1.out HG.out HKK.out HO.out
    rw [List.nil_append, ← strs_snoc] at hr
    exact hr

/-- the names of a state of the reference: nil, or at the head of a block -/
def StIs (w : World) (lo : Nat) (A : Option Addr) (n : Nat) (l : List ByteArray) : Prop :=
  (A = none ∨ ∃ g, A = some ⟨g, 0, none⟩) ∧ RdS w (fun b => lo ≤ b ∧ b < w.heap.size) A n (strs l)
theorem StIs.rd {lo : Nat} {A : Option Addr} (h : StIs w lo A n l) : RdS w (· < w.heap.size) A n (strs l) := h.2.mono fun _ hb => hb.2
theorem StIs.nil {lo : Nat} : StIs w lo none 0 [] := ⟨.inl rfl, RdS.none_⟩
theorem StIs.len {lo : Nat} {A : Option Addr} (h : StIs w lo A n l) : l.length = n := by rw [← strs_length]; exact h.2.1
theorem StIs.keep {w' : World} {lo lo' : Nat} {A : Option Addr} (h : StIs w lo A n l) (hk : ∀ b, lo ≤ b → b < w.heap.size → w'.heap[b]? = w.heap[b]?) (hz : w.heap.size ≤ w'.heap.size) (hl : lo' ≤ lo) : StIs w' lo' A n l :=
  ⟨h.1, (h.2.keep fun b hb => hk b hb.1 hb.2).mono fun b hb => ⟨by omega, by omega⟩⟩
theorem StIs.grow {w' : World} {lo : Nat} {A : Option Addr} (h : StIs w lo A n l) (hb : Below w.heap.size w w') : StIs w' lo A n l := h.keep (fun b _ hb' => hb.block b hb') hb.size (Nat.le_refl _)
theorem StIs.of_own {base lo g c : Nat} (h : w.ownsRow base 9 1 (.slice (some ⟨g, 0, none⟩) n c) n (strs l)) (hlo : lo ≤ base) : StIs w lo (some ⟨g, 0, none⟩) n l :=
  ⟨.inr ⟨g, rfl⟩, (RdS.of_own h).mono fun b hb => ⟨by omega, hb.2.1⟩⟩

theorem radd_new {lo : Nat} {A : Option Addr} (h : StIs w lo A n l) (hn : n ≤ 1099511627776) {s : ByteArray} (hs : s.size ≤ maxLen) (hv : validB s.data.toList = true) (hno : s ∉ l) :
    Calls Try.prog 18 #[.agg #[.slice A n c], .string s] w fun e w' => ∃ g c', e = .returned (.tuple #[.agg #[.slice (some ⟨g, 0, none⟩) (n + 1) c'], .int .i64 (n : Int), .int .i64 0]) ∧
      StIs w' w.heap.size (some ⟨g, 0, none⟩) (n + 1) (l ++ [s]) ∧ Below w.heap.size w w' := by
  rcases h.1 with rfl | ⟨g0, rfl⟩
  · have hn0 : n = 0 := by
      rcases Nat.eq_zero_or_pos n with h0 | h0
      · exact h0
      · obtain ⟨b, o, he, _⟩ := h.2.2 h0; cases he
    subst hn0
    have hl : l = [] := List.eq_nil_of_length_eq_zero h.len
    subst hl
    exact (radd_new_nil hs hv).mono fun e w' ⟨g, c', he, hr, hb⟩ => ⟨g, c', he, StIs.of_own hr (Nat.le_refl _), hb⟩
  · exact (radd_new_some h.rd (fun w' j u hr hu => hr.adds j u hu) hn hs hv hno).mono fun e w' ⟨g, c', he, hr, hb⟩ => ⟨g, c', he, StIs.of_own hr (Nat.le_refl _), hb⟩

/-- whatever string is added -/
def RAddIs (w w' : World) (A : Option Addr) (n c : Nat) (l : List ByteArray) (s : ByteArray) (A' : Option Addr) (n' c' : Nat) (m : Int) : Prop :=
  (addE l s = 0 ∧ n' = n + 1 ∧ m = (n : Int) ∧ StIs w' w.heap.size A' (n + 1) (l ++ [s])) ∨ (addE l s ≠ 0 ∧ A' = A ∧ n' = n ∧ c' = c ∧ m = 0)
theorem radd_any {lo : Nat} {A : Option Addr} (h : StIs w lo A n l) (hn : n ≤ 1099511627776) {s : ByteArray} (hs : s.size ≤ maxLen) :
    Calls Try.prog 18 #[.agg #[.slice A n c], .string s] w fun e w' => ∃ A' n' c' m, e = .returned (.tuple #[.agg #[.slice A' n' c'], .int .i64 m, .int .i64 (addE l s)]) ∧
      RAddIs w w' A n c l s A' n' c' m ∧ Below w.heap.size w w' := by
  rcases addE_cases l s with ⟨ha, hv⟩ | ⟨ha, hv, hm⟩ | ⟨ha, hv, hm⟩
  · exact (radd_name hs hv).mono fun e w' ⟨he, hb⟩ => ⟨A, n, c, 0, by rw [ha]; exact he, .inr ⟨by rw [ha]; decide, rfl, rfl, rfl, rfl⟩, hb⟩
  · exact (radd_twice h.rd hn hs hv hm).mono fun e w' ⟨he, hb⟩ => ⟨A, n, c, 0, by rw [ha]; exact he, .inr ⟨by rw [ha]; decide, rfl, rfl, rfl, rfl⟩, hb⟩
  · exact (radd_new h hn hs hv hm).mono fun e w' ⟨g, c', he, hst, hb⟩ => ⟨_, n + 1, c', (n : Int), by rw [ha]; exact he, .inl ⟨ha, rfl, rfl, hst⟩, hb⟩
end
end Go.Proofs.Ytonlalfdpggioaa
