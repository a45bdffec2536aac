/- Tours: the contract of note. -/
import Derived.Test.YtmoakdplhfgipaaTouC
import Derived.Deep.RegionLaw
namespace Go.Proofs.Ytmoakdplhfgipaa
set_option maxRecDepth 20000
open Go.RowKit Go.Maps

theorem infoVis : (Try.prog.info? 48).map (fun i => (i.zero, i.size, i.bytes)) = some (some (.agg #[.int .i64 0, .int .i64 0, .int .i64 0, .int .i64 0, .int .i64 0, .int .i64 0]), 6, 48) := by kernel_rfl
theorem TS.noted {w0 w w' w9 : World} {X : WPar} {wb mb : Nat} {p : Plc} {row : Value} {vs : List Vis} {f : Int → Option Value} {nm : Nat} (h : TS w0 w X wb mb p row vs f nm) {g c : Nat} {x : Vis} (ho : w9.ownsRow w0.heap.size 48 6 (.slice (some ⟨g, 0, none⟩) (vs.length + 1) c) (vs.length + 1) (flR Vis.cs vs ++ x.cs)) (hg : w.grownBy w9 row.ownBlock) (hw : w' = w9.setCell ⟨wb, 17, none⟩ (.slice (some ⟨g, 0, none⟩) (vs.length + 1) c)) :
    TS w0 w' X wb mb p (.slice (some ⟨g, 0, none⟩) (vs.length + 1) c) (vs ++ [x]) f nm := by
  subst hw
  have hb9 : Blk w9 wb 67 (WA p X mb row) := h.blk.keep (hg.block _ h.blk.lt (fun e => own_type h.own h.blk (by decide) e.symm))
  have hm9 : Ml w9 mb nm f := h.map.kept hg (fun e => own_map h.own h.map e.symm)
  have hbel : Below w0.heap.size w0 w9 := h.bel.grown hg h.bel.size (fun j e => (h.own.lt j e).1)
  refine ⟨?_, ?_, ?_, fun k v hk => ?_, h.prb, below_set hbel h.wlo _, h.wlo, h.mlo⟩
  · have := hb9.set_ 17 (.slice (some ⟨g, 0, none⟩) (vs.length + 1) c)
    simpa [WA] using this
  · obtain ⟨D, ⟨es, clock, e1, e2⟩, hD⟩ := hm9
    exact ⟨D, ⟨es, clock, (Below.heap_setCell w9 _ _ mb (by show mb ≠ wb; exact fun e => h.w_m e.symm)).trans e1, e2⟩, hD⟩
  · rw [flR_snoc, List.length_append]
    exact own_far ho _ _ (own_type ho hb9 (by decide))
  · obtain ⟨b, e, ho', hi, hl⟩ := h.legs k v hk
    have ho9 : OutB w9 b _ := Blk.keep ho' (hg.block _ (Blk.lt ho') (fun e => own_type h.own ho' (by decide) e.symm))
    exact ⟨b, e, Blk.far ho9 (Blk.ne_ ho9 hb9 (by decide)) _, hi, hl⟩
set_option maxRecDepth 100000 in
set_option maxHeartbeats 6400000 in
theorem note_any {w0 w : World} {X : WPar} {wb nm : Nat} {p : Plc} {vs : List Vis} (h : TSx w0 w X wb p vs nm) (hvs : vs.length ≤ 1000) (s a b : Int) :
    Calls Try.prog 53 #[.pointer (some ⟨wb, 0, none⟩), .int .i64 s, .int .i64 a, .int .i64 b] w fun e w' => e = .returned (.tuple #[]) ∧ TSx w0 w' X wb p (vs ++ [⟨s, p.n, a, b, p.t, p.l⟩]) nm := by
  obtain ⟨mb, row, f, hs⟩ := h
  obtain ⟨i0, hi, hz0, hz1, hz2⟩ := info_parts infoVis
  have HS0 := Lib.hid hs
  have hd : w.drew.heap.size = w.heap.size := rfl
  have hsd := hs.up (w' := w.drew) ((Below.refl _ _).drew)
  have HSD := Lib.hid hsd
  have HBD : Hid (Below w.heap.size w w.drew) := Lib.hid ((Below.refl _ _).drew)
  obtain ⟨pn, pt, pl, pm⟩ := p
  have a0 := hs.blk.cell 0
  have a1 := hs.blk.cell 1
  have a2 := hs.blk.cell 2
  have v0 := hs.blk.cell 17
  simp at a0 a1 a2 v0
  have v1 : ∀ cs t, (w.alloc (.cells cs t)).cell? ⟨wb, 17, none⟩ = some row := fun cs t => by have := (hs.blk.alloc (.cells cs t)).cell 17; simpa using this
  have z0 := hs.bel.size
  have HOD : Hid (w.drew.ownsRow w0.heap.size 48 6 row vs.length (flR Vis.cs vs)) := Lib.hid hsd.own
  have zw := hs.blk.lt
  have HRN : Hid (row.ownBlock ≠ some wb) := Lib.hid (own_type hs.own hs.blk (by decide))
  clear hs hsd
  go_enter Try.func53, Try.ntmps53
  go_wp2_with fail
  go_region_law (refine step_append_lies _ rfl (.tmp 12) (.tmp 32) 37 rfl w0.heap.size 48 i0 (.agg #[.int .i64 0, .int .i64 0, .int .i64 0, .int .i64 0, .int .i64 0, .int .i64 0]) 6 48 Try.underlying37 hi hz0 hz1 hz2 rfl (by decide) row vs.length _ (by rfl) (HOD.out.alloc _) ⟨_, 0, none⟩ 1 1 [.int .i64 s, .int .i64 pn, .int .i64 a, .int .i64 b, .int .i64 pt, .int .i64 pl] (by rfl) rfl (World.news_of_block (heap_alloc_new _ _)) (by intro u hu; simp at hu; rcases hu with rfl | rfl | rfl | rfl | rfl | rfl <;> rfl) (by decide) (by unfold maxLen; omega) (by omega) (by simp; omega) _ rfl ?_; intro g9 cap9 w9 hown9 hg9 hat9 hlt9; have HO9 := Lib.hid hown9; have HG9 := Lib.hid hg9; have hk9 := (HSD.out.blk.alloc _).keep (hg9.block _ (by simp; omega) (fun e => HRN.out e.symm)); have k17 := hk9.cell 17; have f17 := hk9.frozen 17; simp at k17; clear hown9 hg9 hat9 hlt9 hk9)
  all_goals (refine bodyPost_end (results_none rfl _ _ _) rfl ⟨rfl, mb, .slice (some ⟨g9, 0, none⟩) (vs.length + 1) cap9, f, ?_⟩)
  all_goals refine TS.noted (x := ⟨s, pn, a, b, pt, pl⟩) ?_ HO9.out HG9.out rfl
  all_goals first
    | exact HSD.out.up ((Below.refl _ _).alloc (Nat.le_refl _) _)
    | exact HS0.out.up (((Below.refl _ _).drew).alloc (Nat.le_refl _) _)
    | exact HS0.out.up (((Below.refl _ _).alloc (Nat.le_refl _) _).drew)
end Go.Proofs.Ytmoakdplhfgipaa
