/- Contracts of the reference's fault, of task.contents and task.reasons. -/
import Derived.Test.YtpeidgfaejnhiaaTskC
namespace Go.Proofs.Ytpeidgfaejnhiaa
open Go.RowKit Go.Maps

set_option maxHeartbeats 1600000 in
theorem fault_any {w : World} {T : Tri} (h : T.In w) (day level : Int) :
    Calls Try.prog 23 #[.slice T.AC T.nC T.cC, .slice T.AS T.nS T.cS, .slice T.AF T.nF T.cF, .int .i64 day, .int .i64 level] w fun e w' => e = .returned (.int .i64 (tskE T.C T.S T.F day level)) ∧ Below w.heap.size w w' := by
  have HIN := Lib.hid h
  clear h
  by_cases h1 : chkL T.C 16 64 = 0
  · by_cases h2 : schsE T.C.length T.S = 0
    · by_cases h3 : filsE T.C T.F = 0
      · have HE := Lib.hid (tsk_d (day := day) (level := level) h1 h2 h3)
        obtain ⟨E, hEE⟩ : ∃ E, tskE T.C T.S T.F day level = E := ⟨_, rfl⟩
        rw [hEE] at HE ⊢
        have H1 := Lib.hid h1
        have H2 := Lib.hid h2
        have H3 := Lib.hid h3
        clear h1 h2 h3 hEE
        go_enter Try.func23, Try.ntmps23
        go_wp2_with (first
          | (go_at_call 36; ((with_reducible refine (rcheck_val H1.out HIN.out).mono ?_); rintro e w1 ⟨rfl, hb1⟩; have HB1 := Lib.hid hb1; clear hb1))
          | (go_at_call 37; ((with_reducible refine (rschs_val H2.out (HIN.out.up HB1.out)).mono ?_); rintro e w2 ⟨rfl, hb2⟩; have HB2 := Lib.hid (bthen HB1.out hb2 HB1.out.size); clear hb2))
          | (go_at_call 38; ((with_reducible refine (rfils_val H3.out (HIN.out.up HB2.out)).mono ?_); rintro e w3 ⟨rfl, hb3⟩; have HB3 := Lib.hid (bthen HB2.out hb3 HB2.out.size); clear hb3)))
        all_goals first | (go_ret; exact ⟨ret_int (by rw [HE.out, if_pos (by omega)]), HB3.out⟩) | (go_ret; exact ⟨ret_int (by rw [HE.out, if_neg (by omega)]), HB3.out⟩)
      · have HE := Lib.hid (tsk_f (day := day) (level := level) h1 h2 h3)
        rw [HE.out]
        have H1 := Lib.hid h1
        have H2 := Lib.hid h2
        obtain ⟨E, hEE⟩ : ∃ E, filsE T.C T.F = E := ⟨_, rfl⟩
        rw [hEE] at h3 ⊢
        have H3 := Lib.hid hEE
        have he2 : (E != 0) = true := by simpa using h3
        clear h1 h2 h3 hEE
        go_enter Try.func23, Try.ntmps23
        go_wp2_with (first
          | (go_at_call 36; ((with_reducible refine (rcheck_val H1.out HIN.out).mono ?_); rintro e w1 ⟨rfl, hb1⟩; have HB1 := Lib.hid hb1; clear hb1))
          | (go_at_call 37; ((with_reducible refine (rschs_val H2.out (HIN.out.up HB1.out)).mono ?_); rintro e w2 ⟨rfl, hb2⟩; have HB2 := Lib.hid (bthen HB1.out hb2 HB1.out.size); clear hb2))
          | (go_at_call 38; ((with_reducible refine (rfils_val H3.out (HIN.out.up HB2.out)).mono ?_); rintro e w3 ⟨rfl, hb3⟩; have HB3 := Lib.hid (bthen HB2.out hb3 HB2.out.size); clear hb3)))
        go_ret
        exact ⟨rfl, HB3.out⟩
    · have HE := Lib.hid (tsk_s (F := T.F) (day := day) (level := level) h1 h2)
      rw [HE.out]
      have H1 := Lib.hid h1
      obtain ⟨E, hEE⟩ : ∃ E, schsE T.C.length T.S = E := ⟨_, rfl⟩
      rw [hEE] at h2 ⊢
      have H2 := Lib.hid hEE
      have he2 : (E != 0) = true := by simpa using h2
      clear h1 h2 hEE
      go_enter Try.func23, Try.ntmps23
      go_wp2_with (first
        | (go_at_call 36; ((with_reducible refine (rcheck_val H1.out HIN.out).mono ?_); rintro e w1 ⟨rfl, hb1⟩; have HB1 := Lib.hid hb1; clear hb1))
        | (go_at_call 37; ((with_reducible refine (rschs_val H2.out (HIN.out.up HB1.out)).mono ?_); rintro e w2 ⟨rfl, hb2⟩; have HB2 := Lib.hid (bthen HB1.out hb2 HB1.out.size); clear hb2)))
      go_ret
      exact ⟨rfl, HB2.out⟩
  · have HE := Lib.hid (tsk_c (S := T.S) (F := T.F) (day := day) (level := level) h1)
    rw [HE.out]
    obtain ⟨E, hEE⟩ : ∃ E, chkL T.C 16 64 = E := ⟨_, rfl⟩
    rw [hEE] at h1 ⊢
    have H1 := Lib.hid hEE
    have he2 : (E != 0) = true := by simpa using h1
    clear h1 hEE
    go_enter Try.func23, Try.ntmps23
    go_wp2_with (first
      | (go_at_call 36; ((with_reducible refine (rcheck_val H1.out HIN.out).mono ?_); rintro e w1 ⟨rfl, hb1⟩; have HB1 := Lib.hid hb1; clear hb1)))
    go_ret
    exact ⟨rfl, HB1.out⟩

/-! ### contents -/
set_option maxHeartbeats 400000 in
theorem at_con (x : Fil) (con : Int) (B : Nat) (W : World) (hB : W.cell? ⟨B, 0, none⟩ = some (.int .i64 con)) :
    Calls Try.prog 49 #[.agg x.vs, .pointer (some ⟨B, 0, none⟩)] W fun e w' => e = .returned (.bool (decide (x.con = con))) ∧ w' = W.alloc (.cells x.vs 53) := by
  have hlt : B < W.heap.size := World.block_lt_of_cell? _ _ hB
  have hB' : (W.alloc (.cells x.vs 53)).cell? ⟨B, 0, none⟩ = some (.int .i64 con) := (World.cell?_alloc_lt W _ ⟨B, 0, none⟩ hlt).trans hB
  obtain ⟨c, lo, hi⟩ := x
  by_cases h : c = con
  · subst h
    go_enter Try.func49, Try.ntmps49
    go_wp2
    go_ret
    exact ⟨ret_bool (by simp), rfl⟩
  · have he : (c == con) = false := by simpa using h
    have H := Lib.hid h
    clear h
    go_enter Try.func49, Try.ntmps49
    go_wp2
    go_ret
    exact ⟨ret_bool (by simp [H.out]), rfl⟩
theorem index_val {v : Int} {w : World} {A : Option Addr} {n c : Nat} {L : List Fil} {con : Int} {B : Nat} (hv : filI L con = v) (h : RdT w (· < w.heap.size) 3 Fil.cs A n L) (hn : n ≤ maxLen) (hB : w.cell? ⟨B, 0, none⟩ = some (.int .i64 con)) :
    Calls Try.prog 48 #[.slice A n c, .func (.func 49) #[] #[.pointer (some ⟨B, 0, none⟩)]] w fun e w' => e = .returned (.int .i64 v) ∧ Below w.heap.size w w' := by
  rw [← hv]
  have hlt : B < w.heap.size := World.block_lt_of_cell? _ _ hB
  exact index_fil h hn (enters_of Try.func49 (by kernel_rfl) rfl) fun x _ W hW =>
    (at_con x con B W ((hW.cell (p := ⟨B, 0, none⟩) hlt).trans hB)).mono fun e w' ⟨he, hw⟩ => ⟨he, by rw [hw]; exact (Below.refl _ _).alloc (Nat.le_refl _) _⟩

/-- a container's cells -/
theorem con_cells {w wr : World} {T : Tri} (h : T.In w) {i : Nat} (hi : i < T.nC) (hb : Below w.heap.size w wr) : ∃ b o x, T.AC = some ⟨b, o, none⟩ ∧ T.C[i]? = some x ∧ b < wr.heap.size ∧ ∀ j u, x.cs[j]? = some u → wr.cell? ⟨b, o + i * 5 + j, none⟩ = some u := by
  obtain ⟨x, hx⟩ := at_lt (l := T.C) (k := i) (by rw [h.c.1]; exact hi)
  obtain ⟨b, o, e, hb0, hc⟩ := h.c.2 (by omega)
  refine ⟨b, o, x, e, hx, Nat.lt_of_lt_of_le hb0 hb.size, fun j u hu => ?_⟩
  exact (hb.cell (p := ⟨b, o + i * 5 + j, none⟩) hb0).trans (by rw [Nat.add_assoc]; exact hc i x hx j u hu)
theorem fil_cells {w wr : World} {T : Tri} (h : T.In w) {i : Nat} {x : Fil} (hx : T.F[i]? = some x) (hb : Below w.heap.size w wr) : ∃ b o, T.AF = some ⟨b, o, none⟩ ∧ i < T.nF ∧ b < wr.heap.size ∧ ∀ j u, x.cs[j]? = some u → wr.cell? ⟨b, o + i * 3 + j, none⟩ = some u := by
  have hi : i < T.nF := by rw [← h.f.1]; exact (List.getElem?_eq_some_iff.1 hx).1
  obtain ⟨b, o, e, hb0, hc⟩ := h.f.2 (by omega)
  refine ⟨b, o, e, hi, Nat.lt_of_lt_of_le hb0 hb.size, fun j u hu => ?_⟩
  exact (hb.cell (p := ⟨b, o + i * 3 + j, none⟩) hb0).trans (by rw [Nat.add_assoc]; exact hc i x hx j u hu)

set_option maxHeartbeats 1600000 in
theorem cont_any {w : World} {T : Tri} (h : T.In w) (day level : Int) {i : Nat} (hi : i < T.nC) :
    Calls Try.prog 34 #[.agg (T.ts day level), .int .i64 (i : Int)] w fun e w' => e = .returned (.tuple #[.int .i64 (massV T.C T.F i), .bool (knownB T.F i)]) ∧ Below w.heap.size w w' := by
  have K0 : Blk ((w.alloc (.cells (T.ts day level) 69)).alloc (.cells #[.int .i64 (i : Int)] 3)) w.heap.size 69 (T.ts day level) := (Blk.new _ _ _).alloc _
  have KI : Blk ((w.alloc (.cells (T.ts day level) 69)).alloc (.cells #[.int .i64 (i : Int)] 3)) (w.heap.size + 1) 3 #[.int .i64 (i : Int)] := Blk.new1 _ _ _ _
  have HB0 : Hid (Below w.heap.size w ((w.alloc (.cells (T.ts day level) 69)).alloc (.cells #[.int .i64 (i : Int)] 3))) := Lib.hid (((Below.refl _ w).alloc (Nat.le_refl _) _).alloc (by simp) _)
  have HIN := Lib.hid h
  have hcn := h.cn
  have hfn := h.fn
  unfold maxLen at hcn hfn
  have HFN := Lib.hid h.fn
  have HK := Lib.hid K0
  have HKI := Lib.hid (KI.cell 0)
  have HKB := Lib.hid KI
  clear h K0 KI
  rcases idxV_cases (fun f : Fil => decide (f.con = (i : Int))) T.F with hv | ⟨j, hv, hj, x, hx, hp, _⟩
  · have e1 : massV T.C T.F i = grAt T.C i := if_pos hv
    have e2 : knownB T.F i = false := by unfold knownB filI; rw [hv]; rfl
    rw [e1, e2]
    have HV : Hid (filI T.F i = -1) := Lib.hid hv
    clear hv e1 e2
    go_enter Try.func34, Try.ntmps34
    go_wp2_with fail
    refine (index_val HV.out ((HIN.out.up HB0.out).f) HFN.out HKI.out).mono ?_
    rintro e w1 ⟨rfl, hb1⟩
    have HB1 := Lib.hid (bthen HB0.out hb1 HB0.out.size)
    obtain ⟨c0, c1, c2, c3, c4⟩ := tskCells (HK.out.grow hb1)
    have ci := (HKB.out.grow hb1).cell 0
    have z1 := (HKB.out.grow hb1).lt
    simp at ci
    obtain ⟨b, o, x, hAC, hx, hbl, hcx⟩ := con_cells HIN.out hi HB1.out
    have d3 := hcx 3 _ rfl
    rw [hAC] at c0
    have HG := Lib.hid (grAt_is hx)
    clear hb1 hcx hx hAC
    go_wp2
    go_ret2
    exact ⟨by rw [HG.out]; rfl, HB1.out⟩
  · have e1 : massV T.C T.F i = x.hi := by
      unfold massV filI hiAt
      rw [hv, if_neg (by omega), Int.toNat_natCast, hx]
    have e2 : knownB T.F i = true := by unfold knownB filI; rw [hv, decide_eq_false (by omega)]; rfl
    rw [e1, e2]
    have HV : Hid (filI T.F i = (j : Int)) := Lib.hid hv
    have j0 : ¬ ((j : Int) < 0) := by omega
    have HX := Lib.hid hx
    clear hv e1 e2 hx hp hj
    go_enter Try.func34, Try.ntmps34
    go_wp2_with fail
    refine (index_val HV.out ((HIN.out.up HB0.out).f) HFN.out HKI.out).mono ?_
    rintro e w1 ⟨rfl, hb1⟩
    have HB1 := Lib.hid (bthen HB0.out hb1 HB0.out.size)
    obtain ⟨c0, c1, c2, c3, c4⟩ := tskCells (HK.out.grow hb1)
    have z1 := (HKB.out.grow hb1).lt
    obtain ⟨b, o, hAF, hjn, hbl, hcx⟩ := fil_cells HIN.out HX.out HB1.out
    have d2 := hcx 2 _ rfl
    rw [hAF] at c2
    clear hb1 hcx hAF
    go_wp2
    all_goals first | (exfalso; omega) | (go_ret2; exact ⟨rfl, HB1.out⟩)
end Go.Proofs.Ytpeidgfaejnhiaa
