/- Contracts of task.check, contents, reasons and of the reference's fault. -/
import Derived.Test.YtpeidgfaejnhiaaTskR
namespace Go.Proofs.Ytpeidgfaejnhiaa
open Go.RowKit Go.Maps

theorem tsk_c {C : List Con} {S : List Sch} {F : List Fil} {day level : Int} (h : chkL C 16 64 ≠ 0) : tskE C S F day level = chkL C 16 64 := if_pos h
theorem tsk_s {C : List Con} {S : List Sch} {F : List Fil} {day level : Int} (h : chkL C 16 64 = 0) (h2 : schsE C.length S ≠ 0) : tskE C S F day level = schsE C.length S := by unfold tskE; rw [if_neg (by simp [h]), if_pos h2]
theorem tsk_f {C : List Con} {S : List Sch} {F : List Fil} {day level : Int} (h : chkL C 16 64 = 0) (h2 : schsE C.length S = 0) (h3 : filsE C F ≠ 0) : tskE C S F day level = filsE C F := by unfold tskE; rw [if_neg (by simp [h]), if_neg (by simp [h2]), if_pos h3]
theorem tsk_d {C : List Con} {S : List Sch} {F : List Fil} {day level : Int} (h : chkL C 16 64 = 0) (h2 : schsE C.length S = 0) (h3 : filsE C F = 0) : tskE C S F day level = if day < 0 ∨ 36524 < day ∨ level < 1 ∨ 1000 < level then 1 else 0 := by unfold tskE; rw [if_neg (by simp [h]), if_neg (by simp [h2]), if_neg (by simp [h3])]

section
variable {w : World} {T : Tri}
theorem check_val {e0 : Int} (he : chkL T.C 16 64 = e0) (h : T.In w) : Calls Try.prog 43 #[.slice T.AC T.nC T.cC, .int .i64 16, .int .i64 64] w fun e w' => e = .returned (.int .i64 e0) ∧ Below w.heap.size w w' := by
  rw [← he]; exact check_any h.c h.cn h.csz 16 64
theorem rcheck_val {e0 : Int} (he : chkL T.C 16 64 = e0) (h : T.In w) : Calls Try.prog 36 #[.slice T.AC T.nC T.cC, .int .i64 16, .int .i64 64] w fun e w' => e = .returned (.int .i64 e0) ∧ Below w.heap.size w w' := by
  rw [← he]; exact rcheck_any h.c h.cn h.csz 16 64
theorem tschs_val {e0 day level : Int} (he : schsE T.C.length T.S = e0) (h : T.In w) : Calls Try.prog 44 #[.agg (T.ts day level)] w fun e w' => e = .returned (.int .i64 e0) ∧ Below w.heap.size w w' := by
  rw [← he, h.c.1]; exact tschs_any h day level
theorem rschs_val {e0 : Int} (he : schsE T.C.length T.S = e0) (h : T.In w) : Calls Try.prog 37 #[.int .i64 (T.nC : Int), .slice T.AS T.nS T.cS] w fun e w' => e = .returned (.int .i64 e0) ∧ Below w.heap.size w w' := by
  rw [← he, h.c.1]; exact rschs_any _ h.s h.sn h.sok
theorem tfils_val {e0 day level : Int} (he : filsE T.C T.F = e0) (h : T.In w) : Calls Try.prog 45 #[.agg (T.ts day level)] w fun e w' => e = .returned (.int .i64 e0) ∧ Below w.heap.size w w' := by
  rw [← he]; exact tfils_any h day level
theorem rfils_val {e0 : Int} (he : filsE T.C T.F = e0) (h : T.In w) : Calls Try.prog 38 #[.slice T.AC T.nC T.cC, .slice T.AF T.nF T.cF] w fun e w' => e = .returned (.int .i64 e0) ∧ Below w.heap.size w w' := by
  rw [← he]; exact rfils_any h.c h.cn h.f h.fn
end
/-- a task's block in memory, and that its cells read so -/
def TskCells (W : World) (g : Nat) (T : Tri) (day level : Int) : Prop := W.cell? ⟨g, 0, none⟩ = some (.slice T.AC T.nC T.cC) ∧ W.cell? ⟨g, 1, none⟩ = some (.slice T.AS T.nS T.cS) ∧ W.cell? ⟨g, 2, none⟩ = some (.slice T.AF T.nF T.cF) ∧ W.cell? ⟨g, 3, none⟩ = some (.int .i64 day) ∧ W.cell? ⟨g, 4, none⟩ = some (.int .i64 level)
theorem tskCells {W : World} {g : Nat} {T : Tri} {day level : Int} (h : Blk W g 69 (T.ts day level)) : TskCells W g T day level := ⟨h.cell 0, h.cell 1, h.cell 2, h.cell 3, h.cell 4⟩

set_option maxRecDepth 100000 in
set_option maxHeartbeats 3200000 in
theorem tchk_any {w : World} {T : Tri} (h : T.In w) (day level : Int) :
    Calls Try.prog 31 #[.agg (T.ts day level)] w fun e w' => e = .returned (.int .i64 (tskE T.C T.S T.F day level)) ∧ Below w.heap.size w w' := by
  have K0 : Hid (Blk (w.alloc (.cells (T.ts day level) 69)) w.heap.size 69 (T.ts day level)) := Lib.hid (Blk.new _ _ _)
  have HIN := Lib.hid h
  have HB0 : Hid (Below w.heap.size w (w.alloc (.cells (T.ts day level) 69))) := Lib.hid ((Below.refl _ w).alloc (Nat.le_refl _) _)
  clear h
  by_cases h1 : chkL T.C 16 64 = 0
  · by_cases h2 : schsE T.C.length T.S = 0
    · by_cases h3 : filsE T.C T.F = 0
      · have HE := Lib.hid (tsk_d (day := day) (level := level) h1 h2 h3)
        obtain ⟨E, hEE⟩ : ∃ E, tskE T.C T.S T.F day level = E := ⟨_, rfl⟩
        rw [hEE] at HE ⊢
        have H1 := Lib.hid h1
        have H2 := Lib.hid h2
        have H3 := Lib.hid h3
        clear h1 h2 h3 hEE
        by_cases d1 : 0 ≤ day ∧ day ≤ 36524
        · have D1 := Lib.hid (witB_true d1)
          cases d2 : witB level 1 1000
          · have D2 := Lib.hid d2
            have d2' : ¬ (1 ≤ level ∧ level ≤ 1000) := fun h => by rw [witB_true h] at d2; cases d2
            have HE1 : Hid (E = 1) := Lib.hid (by rw [HE.out, if_pos (by omega)])
            clear d1 d2 d2'
            go_enter Try.func31, Try.ntmps31
            go_wp2_with (first
              | (go_at_call 43; ((with_reducible refine (check_val H1.out (HIN.out.up HB0.out)).mono ?_); rintro e w1 ⟨rfl, hb1⟩; have HB1 := Lib.hid (bthen HB0.out hb1 HB0.out.size); have K1 := Lib.hid (K0.out.grow hb1); obtain ⟨c0, c1, c2, c3, c4⟩ := tskCells K1.out; have z1 := K1.out.lt; clear hb1))
              | (go_at_call 44; ((with_reducible refine (tschs_val H2.out (HIN.out.up HB1.out)).mono ?_); rintro e w2 ⟨rfl, hb2⟩; have HB2 := Lib.hid (bthen HB1.out hb2 HB1.out.size); have K2 := Lib.hid (K1.out.grow hb2); obtain ⟨d0, d1, d2, d3, d4⟩ := tskCells K2.out; have z2 := K2.out.lt; clear hb2))
              | (go_at_call 45; ((with_reducible refine (tfils_val H3.out (HIN.out.up HB2.out)).mono ?_); rintro e w3 ⟨rfl, hb3⟩; have HB3 := Lib.hid (bthen HB2.out hb3 HB2.out.size); have K3 := Lib.hid (K2.out.grow hb3); obtain ⟨e0, e1, e2, e3, e4⟩ := tskCells K3.out; have z3 := K3.out.lt; clear hb3))
              | (go_at_call 32; ((with_reducible refine (within_val D1.out _).mono ?_); rintro e w' ⟨rfl, rfl⟩))
              | (go_at_call 32; ((with_reducible refine (within_val D2.out _).mono ?_); rintro e w' ⟨rfl, rfl⟩)))
            go_ret
            exact ⟨ret_int HE1.out.symm, HB3.out⟩
          · have D2 := Lib.hid d2
            have d2' := witB_iff.1 d2
            have HE1 : Hid (E = 0) := Lib.hid (by rw [HE.out, if_neg (by omega)])
            clear d1 d2 d2'
            go_enter Try.func31, Try.ntmps31
            go_wp2_with (first
              | (go_at_call 43; ((with_reducible refine (check_val H1.out (HIN.out.up HB0.out)).mono ?_); rintro e w1 ⟨rfl, hb1⟩; have HB1 := Lib.hid (bthen HB0.out hb1 HB0.out.size); have K1 := Lib.hid (K0.out.grow hb1); obtain ⟨c0, c1, c2, c3, c4⟩ := tskCells K1.out; have z1 := K1.out.lt; clear hb1))
              | (go_at_call 44; ((with_reducible refine (tschs_val H2.out (HIN.out.up HB1.out)).mono ?_); rintro e w2 ⟨rfl, hb2⟩; have HB2 := Lib.hid (bthen HB1.out hb2 HB1.out.size); have K2 := Lib.hid (K1.out.grow hb2); obtain ⟨d0, d1, d2, d3, d4⟩ := tskCells K2.out; have z2 := K2.out.lt; clear hb2))
              | (go_at_call 45; ((with_reducible refine (tfils_val H3.out (HIN.out.up HB2.out)).mono ?_); rintro e w3 ⟨rfl, hb3⟩; have HB3 := Lib.hid (bthen HB2.out hb3 HB2.out.size); have K3 := Lib.hid (K2.out.grow hb3); obtain ⟨e0, e1, e2, e3, e4⟩ := tskCells K3.out; have z3 := K3.out.lt; clear hb3))
              | (go_at_call 32; ((with_reducible refine (within_val D1.out _).mono ?_); rintro e w' ⟨rfl, rfl⟩))
              | (go_at_call 32; ((with_reducible refine (within_val D2.out _).mono ?_); rintro e w' ⟨rfl, rfl⟩)))
            go_ret
            exact ⟨ret_int HE1.out.symm, HB3.out⟩
        · have D1 := Lib.hid (witB_false d1)
          have HE1 : Hid (E = 1) := Lib.hid (by rw [HE.out, if_pos (by omega)])
          clear d1
          go_enter Try.func31, Try.ntmps31
          go_wp2_with (first
            | (go_at_call 43; ((with_reducible refine (check_val H1.out (HIN.out.up HB0.out)).mono ?_); rintro e w1 ⟨rfl, hb1⟩; have HB1 := Lib.hid (bthen HB0.out hb1 HB0.out.size); have K1 := Lib.hid (K0.out.grow hb1); obtain ⟨c0, c1, c2, c3, c4⟩ := tskCells K1.out; have z1 := K1.out.lt; clear hb1))
            | (go_at_call 44; ((with_reducible refine (tschs_val H2.out (HIN.out.up HB1.out)).mono ?_); rintro e w2 ⟨rfl, hb2⟩; have HB2 := Lib.hid (bthen HB1.out hb2 HB1.out.size); have K2 := Lib.hid (K1.out.grow hb2); obtain ⟨d0, d1, d2, d3, d4⟩ := tskCells K2.out; have z2 := K2.out.lt; clear hb2))
            | (go_at_call 45; ((with_reducible refine (tfils_val H3.out (HIN.out.up HB2.out)).mono ?_); rintro e w3 ⟨rfl, hb3⟩; have HB3 := Lib.hid (bthen HB2.out hb3 HB2.out.size); have K3 := Lib.hid (K2.out.grow hb3); obtain ⟨e0, e1, e2, e3, e4⟩ := tskCells K3.out; have z3 := K3.out.lt; clear hb3))
            | (go_at_call 32; ((with_reducible refine (within_val D1.out _).mono ?_); rintro e w' ⟨rfl, rfl⟩)))
          go_ret
          exact ⟨ret_int HE1.out.symm, HB3.out⟩
      · have HE := Lib.hid (tsk_f (day := day) (level := level) h1 h2 h3)
        rw [HE.out]
        have H1 := Lib.hid h1
        have H2 := Lib.hid h2
        obtain ⟨E, hEE⟩ : ∃ E, filsE T.C T.F = E := ⟨_, rfl⟩
        rw [hEE] at h3 ⊢
        have H3 := Lib.hid hEE
        have he2 : (E != 0) = true := by simpa using h3
        clear h1 h2 h3 hEE
        go_enter Try.func31, Try.ntmps31
        go_wp2_with (first
          | (go_at_call 43; ((with_reducible refine (check_val H1.out (HIN.out.up HB0.out)).mono ?_); rintro e w1 ⟨rfl, hb1⟩; have HB1 := Lib.hid (bthen HB0.out hb1 HB0.out.size); have K1 := Lib.hid (K0.out.grow hb1); obtain ⟨c0, c1, c2, c3, c4⟩ := tskCells K1.out; have z1 := K1.out.lt; clear hb1))
          | (go_at_call 44; ((with_reducible refine (tschs_val H2.out (HIN.out.up HB1.out)).mono ?_); rintro e w2 ⟨rfl, hb2⟩; have HB2 := Lib.hid (bthen HB1.out hb2 HB1.out.size); have K2 := Lib.hid (K1.out.grow hb2); obtain ⟨d0, d1, d2, d3, d4⟩ := tskCells K2.out; have z2 := K2.out.lt; clear hb2))
          | (go_at_call 45; ((with_reducible refine (tfils_val H3.out (HIN.out.up HB2.out)).mono ?_); rintro e w3 ⟨rfl, hb3⟩; have HB3 := Lib.hid (bthen HB2.out hb3 HB2.out.size); clear hb3)))
        go_ret
        exact ⟨rfl, HB3.out⟩
    · have HE := Lib.hid (tsk_s (F := T.F) (day := day) (level := level) h1 h2)
      rw [HE.out]
      have H1 := Lib.hid h1
      obtain ⟨E, hEE⟩ : ∃ E, schsE T.C.length T.S = E := ⟨_, rfl⟩
      rw [hEE] at h2 ⊢
      have H2 := Lib.hid hEE
      have he2 : (E != 0) = true := by simpa using h2
      clear h1 h2 hEE
      go_enter Try.func31, Try.ntmps31
      go_wp2_with (first
        | (go_at_call 43; ((with_reducible refine (check_val H1.out (HIN.out.up HB0.out)).mono ?_); rintro e w1 ⟨rfl, hb1⟩; have HB1 := Lib.hid (bthen HB0.out hb1 HB0.out.size); have K1 := Lib.hid (K0.out.grow hb1); obtain ⟨c0, c1, c2, c3, c4⟩ := tskCells K1.out; have z1 := K1.out.lt; clear hb1))
        | (go_at_call 44; ((with_reducible refine (tschs_val H2.out (HIN.out.up HB1.out)).mono ?_); rintro e w2 ⟨rfl, hb2⟩; have HB2 := Lib.hid (bthen HB1.out hb2 HB1.out.size); clear hb2)))
      go_ret
      exact ⟨rfl, HB2.out⟩
  · have HE := Lib.hid (tsk_c (S := T.S) (F := T.F) (day := day) (level := level) h1)
    rw [HE.out]
    obtain ⟨E, hEE⟩ : ∃ E, chkL T.C 16 64 = E := ⟨_, rfl⟩
    rw [hEE] at h1 ⊢
    have H1 := Lib.hid hEE
    have he2 : (E != 0) = true := by simpa using h1
    clear h1 hEE
    go_enter Try.func31, Try.ntmps31
    go_wp2_with (first
      | (go_at_call 43; ((with_reducible refine (check_val H1.out (HIN.out.up HB0.out)).mono ?_); rintro e w1 ⟨rfl, hb1⟩; have HB1 := Lib.hid (bthen HB0.out hb1 HB0.out.size); clear hb1)))
    go_ret
    exact ⟨rfl, HB1.out⟩
end Go.Proofs.Ytpeidgfaejnhiaa
