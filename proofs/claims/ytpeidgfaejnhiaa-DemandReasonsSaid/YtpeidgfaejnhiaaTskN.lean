/- The contract of the reference's Make. -/
import Derived.Test.YtpeidgfaejnhiaaTskM
namespace Go.Proofs.Ytpeidgfaejnhiaa
open Go.RowKit Go.Maps

theorem if_go {c : Bool} {A E : Prop} (hc : c = true) (h : A) : if c = true then A else E := by rw [if_pos hc]; exact h

set_option maxRecDepth 100000 in
set_option maxHeartbeats 3200000 in
theorem rmake_any {w : World} {T : Tri} (h : T.In w) (day level f t v : Int) :
    Calls Try.prog 12 #[.slice T.AC T.nC T.cC, .slice T.AS T.nS T.cS, .slice T.AF T.nF T.cF, .int .i64 day, .int .i64 level, .agg #[.int .i64 f, .int .i64 t], .int .i64 v] w (MakPost w (makL T.C T.S T.F day level f t v) (makE T.C T.S T.F day level f t v)) := by
  obtain ⟨AC, nC, cC, C, AS, nS, cS, S, AF, nF, cF, F⟩ := T
  simp only
  have KW : Hid (Blk (w.alloc (.cells #[.int .i64 f, .int .i64 t] 26)) w.heap.size 26 #[.int .i64 f, .int .i64 t]) := Lib.hid (Blk.new _ _ _)
  have HB0 : Hid (Below w.heap.size w (w.alloc (.cells #[.int .i64 f, .int .i64 t] 26))) := Lib.hid ((Below.refl _ w).alloc (Nat.le_refl _) _)
  have HIN := Lib.hid h
  have HCL : Hid (C.length = nC) := Lib.hid h.c.1
  have hcn : nC ≤ maxLen := h.cn
  unfold maxLen at hcn
  clear h
  by_cases h0 : tskE C S F day level = 0
  · have H0 := Lib.hid h0
    have h256 : nC ≤ 256 := by rw [← HCL.out]; exact con_len (tsk_zero h0).1
    by_cases hw : winP f t v
    · obtain ⟨e1, e2⟩ := mak_w h0 hw
      rw [e1, e2]
      unfold winP at hw
      clear h0 e1 e2
      go_enter Try.func12, Try.ntmps12
      go_wp2_with (first
        | (go_at_call 23; ((with_reducible refine (fault_val H0.out (HIN.out.up HB0.out)).mono ?_); rintro e w1 ⟨rfl, hb1⟩; have HB1 := Lib.hid (bthen HB0.out hb1 HB0.out.size); have kw := KW.out.grow hb1; have y0 := kw.cell 0; have y1 := kw.cell 1; simp at y0 y1; clear hb1 kw)))
      all_goals first | (exfalso; omega) | (go_ret2; exact MakPost.nil HB1.out)
    · have HW := Lib.hid hw
      unfold winP at hw
      have a1 : 0 ≤ f := by omega
      have a2 : f ≤ t := by omega
      have a3 : t ≤ 86400 := by omega
      have a4 : 0 ≤ v := by omega
      have a5 : v ≤ 3600 := by omega
      have HM1 : Hid (32 < (allD C S F day level f t v).length → makE C S F day level f t v = 8 ∧ makL C S F day level f t v = []) := Lib.hid (mak_n h0 HW.out)
      have HM2 : Hid (¬ 32 < (allD C S F day level f t v).length → makE C S F day level f t v = 0 ∧ makL C S F day level f t v = allD C S F day level f t v) := Lib.hid (mak_ok h0 HW.out)
      obtain ⟨ME, hME⟩ : ∃ ME, makE C S F day level f t v = ME := ⟨_, rfl⟩
      obtain ⟨ML, hML⟩ : ∃ ML, makL C S F day level f t v = ML := ⟨_, rfl⟩
      rw [hME, hML] at HM1 HM2 ⊢
      clear h0 hw hME hML
      obtain ⟨i0, hi, hz0, hz1, hz2⟩ := info_parts infoD
      go_enter Try.func12, Try.ntmps12
      go_wp2_with (first
        | (go_at_call 23; ((with_reducible refine (fault_val H0.out (HIN.out.up HB0.out)).mono ?_); rintro e w1 ⟨rfl, hb1⟩; have HB1 := Lib.hid (bthen HB0.out hb1 HB0.out.size); have KW1 := Lib.hid (KW.out.grow hb1); have y0 := KW1.out.cell 0; have y1 := KW1.out.cell 1; simp at y0 y1; clear hb1)))
      all_goals first | (exfalso; omega) | skip
      clear y0 y1
      go_loopw [17, 18] (fun o i wr => ∃ k : Nat, k ≤ nC ∧ i = .int .i64 (k : Nat) ∧ wr.ownsRow w1.heap.size 55 7 o (dk C S F day level f t v k).length (flD (dk C S F day level f t v k)) ∧ Below w1.heap.size w1 wr) (fun _ i _ => nC - (intOf i).toNat)
      case atStart => exact ⟨0, Nat.zero_le _, rfl, World.ownsRow_nil _ _ _ _, Below.refl _ _⟩
      case round =>
        obtain ⟨k, hk, rfl, hown, hbel⟩ := hrel
        have HO := Lib.hid hown
        have HB := Lib.hid hbel
        have HBW := Lib.hid (bthen HB1.out hbel HB1.out.size)
        have hszw := hbel.size
        have KWr := Lib.hid (KW1.out.grow hbel)
        have hln := dk_len C S F day level f t v k
        clear hown hbel
        by_cases hlt : k < nC
        · have HI := Lib.hid hlt
          obtain ⟨bC, oC, x, hAC, hx, hbr, hcx⟩ := con_cells HIN.out hlt HBW.out
          have HCC : Hid (∀ W, Below w.heap.size w W → W.cell? ⟨bC, oC + k * 5 + 1, none⟩ = some (.int .i64 x.kind) ∧ W.cell? ⟨bC, oC + k * 5 + 4, none⟩ = some (.int .i64 x.node)) := Lib.hid (fun W hW => by
            obtain ⟨b', o', x', hAC', hx', _, hcx'⟩ := con_cells HIN.out HI.out hW
            simp only at hAC hx hAC' hx'
            have e1 := Option.some.inj (hAC.symm.trans hAC')
            have e2 := Option.some.inj (hx.symm.trans hx')
            subst e2
            injection e1 with e3 e4
            subst e3; subst e4
            exact ⟨hcx' 1 _ rfl, hcx' 4 _ rfl⟩)
          simp only at hAC hx
          subst hAC
          obtain ⟨id, kind, lit, gr, node⟩ := x
          have x1 : (0 : Int) ≤ (k : Int) := by omega
          have x2 : (k : Int) < (nC : Int) := by omega
          obtain ⟨m, hm⟩ : ∃ m, massV C F (k : Int) = m := ⟨_, rfl⟩
          have HMM := Lib.hid hm
          clear hcx hm
          by_cases hr0 : reaV C S F day level (k : Int) = 0
          · have HR := Lib.hid hr0
            have HDK := Lib.hid (dk_no (f := f) (t := t) (v := v) hx hr0)
            clear hr0 hx
            go_wp2_with (first
              | (go_at_call 24; ((with_reducible refine (rrea_val HR.out HMM.out (HIN.out.up HBW.out) HI.out H0.out).mono ?_); rintro e w3 ⟨rfl, hb3⟩; have HB3 := Lib.hid hb3; clear hb3)))
            go_roundw
            case rel => exact ⟨k + 1, by omega, by go_num, by rw [HDK.out]; exact own_keepD HO.out HB3.out, bthen HB.out HB3.out HB.out.size⟩
            case measure => simp [intOf]; omega
          · obtain ⟨r, hr⟩ : ∃ r, reaV C S F day level (k : Int) = r := ⟨_, rfl⟩
            have HDK := Lib.hid (dk_yes (f := f) (t := t) (v := v) hx hr0)
            have HDA : Hid (flD [demAt C F f t v k ⟨id, kind, lit, gr, node⟩] = [.int .i64 (k : Int), .int .i64 node, .int .i64 kind, .int .i64 m, .int .i64 f, .int .i64 t, .int .i64 v]) := Lib.hid (by unfold demAt flD; rw [HMM.out]; rfl)
            rw [hr] at hr0
            have hrq : (r == 0) = false := by simpa using hr0
            have HR := Lib.hid hr
            clear hr0 hx hr
            go_wp2_with (first
              | (go_at_call 24; ((with_reducible refine (rrea_val HR.out HMM.out (HIN.out.up HBW.out) HI.out H0.out).mono ?_); rintro e w3 ⟨rfl, hb3⟩; have HB3 := Lib.hid hb3; clear hb3)))
            have hs3 := HB3.out.size
            have HBD : Hid (Below w1.heap.size w1 w3.drew) := Lib.hid ((bthen HB.out HB3.out HB.out.size).drew)
            have HOD : Hid (World.ownsRow w3.drew _ _ _ _ _ _) := Lib.hid (own_keepD (own_keepD HO.out HB3.out) ((Below.refl _ _).drew))
            have HS : Hid (∀ W, Below w1.heap.size w1 W → (W.cell? ⟨bC, oC + k * 5 + 1, none⟩ = some (.int .i64 kind) ∧ W.cell? ⟨bC, oC + k * 5 + 4, none⟩ = some (.int .i64 node) ∧ W.cell? ⟨w.heap.size, 0, none⟩ = some (.int .i64 f) ∧ W.cell? ⟨w.heap.size, 1, none⟩ = some (.int .i64 t))) := Lib.hid (fun W hW => by
              have kq := KW1.out.grow hW
              have hq := HCC.out W (bthen HB1.out hW HB1.out.size)
              exact ⟨hq.1, hq.2, kq.cell 0, kq.cell 1⟩)
            have hd3 : w3.drew.heap.size = w3.heap.size := rfl
            go_region_held3 (fun W => W.cell? ⟨bC, oC + k * 5 + 1, none⟩ = some (.int .i64 kind) ∧ W.cell? ⟨bC, oC + k * 5 + 4, none⟩ = some (.int .i64 node) ∧ W.cell? ⟨w.heap.size, 0, none⟩ = some (.int .i64 f) ∧ W.cell? ⟨w.heap.size, 1, none⟩ = some (.int .i64 t))
              (first | exact HS.out _ HBD.out | exact HS.out _ (HBD.out.alloc HBD.out.size _) | exact HS.out _ (bthen HB.out HB3.out HB.out.size))
              (first
                | (refine if_go (by kernel_rfl) ?_; refine wp_append_lies _ (.tmp 71) (.tmp 87) 31 (by rfl) w1.heap.size 55 i0 (.agg #[.int .i64 0, .int .i64 0, .int .i64 0, .int .i64 0, .int .i64 0, .int .i64 0, .int .i64 0]) 7 56 Try.underlying31 hi hz0 hz1 hz2 rfl (by decide) _ _ _ (by rfl) (HOD.out.alloc _) ⟨_, 0, none⟩ 1 1 [.int .i64 (k : Int), .int .i64 node, .int .i64 kind, .int .i64 m, .int .i64 f, .int .i64 t, .int .i64 v] (by rfl) rfl (World.news_of_block (heap_alloc_new _ _)) (by intro u hu; simp at hu; rcases hu with rfl | rfl | rfl | rfl | rfl | rfl | rfl <;> rfl) (by decide) (by unfold maxLen; omega) (by omega) (by have := HBD.out.size; simp; omega) _ rfl ?_; intro g9 cap9 w9 hown9 hg9 hat9 hlt9; have HO9 := Lib.hid hown9; have HBD := Lib.hid ((HBD.out.alloc HBD.out.size _).grown hg9 (by have := HBD.out.size; simp; omega) (fun j e => (HOD.out.lt j e).1)); clear hown9 hg9 hat9 hlt9))
            go_wp2
            go_roundw
            case rel =>
              refine ⟨k + 1, by omega, by go_num, ?_, HBD.out⟩
              rw [HDK.out, flD_snoc, show (demAt C F f t v k ⟨id, kind, lit, gr, node⟩).cs = [.int .i64 (k : Int), .int .i64 node, .int .i64 kind, .int .i64 m, .int .i64 f, .int .i64 t, .int .i64 v] by have := HDA.out; simpa [flD] using this, List.length_append]
              exact HO9.out
            case measure => simp [intOf]; omega
        · have e : k = nC := by omega
          subst e
          obtain ⟨A, c, rfl, hcap, hrd⟩ := own_dems HO.out
          have HRD := Lib.hid (hrd.mono (S' := (· < wr.heap.size)) fun b hb => hb.2)
          have HDA := Lib.hid (dk_all (S := S) (F := F) (day := day) (level := level) (f := f) (t := t) (v := v) HCL.out)
          rw [HDA.out] at HRD hln hcap ⊢
          have HCAP := Lib.hid hcap
          clear hrd hcap
          by_cases hn : 32 < (allD C S F day level f t v).length
          · obtain ⟨e1, e2⟩ := HM1.out hn
            subst e1
            subst e2
            go_wp2
            go_ret2
            exact MakPost.nil HBW.out
          · obtain ⟨e1, e2⟩ := HM2.out hn
            subst e1
            subst e2
            go_wp2
            go_ret2
            exact ⟨A, c, rfl, HCAP.out, HRD.out, HBW.out⟩
  · obtain ⟨e1, e2⟩ := mak_e (f := f) (t := t) (v := v) h0
    rw [e1, e2]
    obtain ⟨E, hEE⟩ : ∃ E, tskE C S F day level = E := ⟨_, rfl⟩
    rw [hEE] at h0 ⊢
    have H0 := Lib.hid hEE
    have he2 : (E != 0) = true := by simpa using h0
    clear h0 e1 e2 hEE
    go_enter Try.func12, Try.ntmps12
    go_wp2_with (first
      | (go_at_call 23; ((with_reducible refine (fault_val H0.out (HIN.out.up HB0.out)).mono ?_); rintro e w1 ⟨rfl, hb1⟩; have HB1 := Lib.hid (bthen HB0.out hb1 HB0.out.size); clear hb1)))
    go_ret2
    exact MakPost.nil HB1.out
end Go.Proofs.Ytpeidgfaejnhiaa
