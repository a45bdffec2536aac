/- The contract of demand.Make. -/
import Derived.Test.YtpeidgfaejnhiaaTskG
namespace Go.Proofs.Ytpeidgfaejnhiaa
open Go.RowKit Go.Maps

theorem infoD : (Try.prog.info? 55).map (fun i => (i.zero, i.size, i.bytes)) = some (some (.agg #[.int .i64 0, .int .i64 0, .int .i64 0, .int .i64 0, .int .i64 0, .int .i64 0, .int .i64 0]), 7, 56) := by kernel_rfl
def flD (L : List Dem) : List Value := (L.map Dem.cs).flatten
theorem flD_snoc (L : List Dem) (x : Dem) : flD (L ++ [x]) = flD L ++ x.cs := by simp [flD]
theorem own_dems {w : World} {base : Nat} {v : Value} {L : List Dem} (h : w.ownsRow base 55 7 v L.length (flD L)) : ∃ A c, v = .slice A L.length c ∧ L.length ≤ c ∧ RdT w (fun b => base ≤ b ∧ b < w.heap.size) 7 Dem.cs A L.length L := by
  rcases Nat.eq_zero_or_pos L.length with h0 | h0
  · have hL : L = [] := List.eq_nil_of_length_eq_zero h0
    subst hL
    rcases h.2 with ⟨rfl, _⟩ | ⟨g, cap, cur, rfl, _⟩
    · exact ⟨none, 0, rfl, Nat.le_refl _, RdT.none_⟩
    · exact ⟨_, _, rfl, Nat.zero_le _, rfl, fun h => absurd h (by simp)⟩
  · obtain ⟨g, cap, rfl, hb, hlt⟩ := h.form h0
    have hcap : L.length ≤ cap := by
      rcases h.2 with ⟨h1, _⟩ | ⟨g', cap', cur, h1, _, _, h2, _⟩
      · cases h1
      · injection h1 with _ _ h3
        omega
    refine ⟨_, _, rfl, hcap, rfl, fun _ => ⟨g, 0, rfl, ⟨hb, hlt⟩, fun i x hx j u hu => ?_⟩⟩
    have h1 := h.cells (g := g) rfl (i * 7 + j) u (flat_at (f := Dem.cs) (s := 7) (fun _ => rfl) L i j x u hx hu)
    unfold Addr.add at h1
    split at h1
    · rename_i h2; rw [h2]; simpa using h1
    · simpa using h1
theorem own_keepD {w w' : World} {base : Nat} {v : Value} {n : Nat} {xs : List Value} (h : w.ownsRow base 55 7 v n xs) (hb : Below w.heap.size w w') : w'.ownsRow base 55 7 v n xs :=
  h.kept (row := none) ⟨hb.os, hb.tape, hb.output, hb.size, fun i hi _ => hb.block i hi⟩ (by cases h : v.ownBlock <;> simp)

/-- the demands of the first k containers -/
def dk (C : List Con) (S : List Sch) (F : List Fil) (day level f t v : Int) (k : Nat) : List Dem := demsL C S F day level f t v (C.take k) 0
theorem dk_step {C : List Con} {S : List Sch} {F : List Fil} {day level f t v : Int} {k : Nat} {x : Con} (hx : C[k]? = some x) : dk C S F day level f t v (k + 1) = dk C S F day level f t v k ++ if reaV C S F day level k = 0 then [] else [demAt C F f t v k x] := by
  have hk : (C.take k).length = k := by
    have := (List.getElem?_eq_some_iff.1 hx).1
    rw [List.length_take]; omega
  unfold dk
  rw [List.take_add_one, hx]
  have := demsL_snoc C S F day level f t v x (C.take k) 0
  rw [Nat.zero_add, hk] at this
  exact this
theorem dk_no {C : List Con} {S : List Sch} {F : List Fil} {day level f t v : Int} {k : Nat} {x : Con} (hx : C[k]? = some x) (h : reaV C S F day level k = 0) : dk C S F day level f t v (k + 1) = dk C S F day level f t v k := by rw [dk_step hx, if_pos h, List.append_nil]
theorem dk_yes {C : List Con} {S : List Sch} {F : List Fil} {day level f t v : Int} {k : Nat} {x : Con} (hx : C[k]? = some x) (h : reaV C S F day level k ≠ 0) : dk C S F day level f t v (k + 1) = dk C S F day level f t v k ++ [demAt C F f t v k x] := by rw [dk_step hx, if_neg h]
theorem dk_len (C : List Con) (S : List Sch) (F : List Fil) (day level f t v : Int) (k : Nat) : (dk C S F day level f t v k).length ≤ k := Nat.le_trans (demsL_len ..) (List.length_take_le _ _)
theorem dk_all {C : List Con} {S : List Sch} {F : List Fil} {day level f t v : Int} {n : Nat} (h : C.length = n) : dk C S F day level f t v n = allD C S F day level f t v := by unfold dk allD; rw [List.take_of_length_le (by omega)]
section
variable {C : List Con} {S : List Sch} {F : List Fil} {day level f t v : Int}
theorem mak_e (h : tskE C S F day level ≠ 0) : makE C S F day level f t v = tskE C S F day level ∧ makL C S F day level f t v = [] := by
  have e : makE C S F day level f t v = tskE C S F day level := if_pos h
  exact ⟨e, if_neg (by rw [e]; exact h)⟩
theorem mak_w (h : tskE C S F day level = 0) (hw : winP f t v) : makE C S F day level f t v = 1 ∧ makL C S F day level f t v = [] := by
  have e : makE C S F day level f t v = 1 := by unfold makE; rw [if_neg (by simp [h]), if_pos hw]
  exact ⟨e, if_neg (by rw [e]; decide)⟩
theorem mak_n (h : tskE C S F day level = 0) (hw : ¬ winP f t v) (hn : 32 < (allD C S F day level f t v).length) : makE C S F day level f t v = 8 ∧ makL C S F day level f t v = [] := by
  have e : makE C S F day level f t v = 8 := by unfold makE; rw [if_neg (by simp [h]), if_neg hw, if_pos hn]
  exact ⟨e, if_neg (by rw [e]; decide)⟩
theorem mak_ok (h : tskE C S F day level = 0) (hw : ¬ winP f t v) (hn : ¬ 32 < (allD C S F day level f t v).length) : makE C S F day level f t v = 0 ∧ makL C S F day level f t v = allD C S F day level f t v := by
  have e : makE C S F day level f t v = 0 := by unfold makE; rw [if_neg (by simp [h]), if_neg hw, if_neg hn]
  exact ⟨e, if_pos e⟩
end
/-- what Make returns -/
def MakPost (w : World) (L : List Dem) (E : Int) (e : Ending) (w' : World) : Prop :=
  ∃ A c, e = .returned (.tuple #[.slice A L.length c, .int .i64 E]) ∧ L.length ≤ c ∧ RdT w' (· < w'.heap.size) 7 Dem.cs A L.length L ∧ Below w.heap.size w w'
theorem MakPost.nil {w w' : World} {E : Int} (h : Below w.heap.size w w') : MakPost w [] E (.returned (.tuple #[.slice none 0 0, .int .i64 E])) w' := ⟨none, 0, rfl, Nat.le_refl _, RdT.none_, h⟩

set_option maxRecDepth 100000 in
set_option maxHeartbeats 3200000 in
theorem make_any {w : World} {T : Tri} (h : T.In w) (day level f t v : Int) (hd : i64ok day) :
    Calls Try.prog 21 #[.slice T.AC T.nC T.cC, .slice T.AS T.nS T.cS, .slice T.AF T.nF T.cF, .int .i64 day, .int .i64 level, .agg #[.int .i64 f, .int .i64 t], .int .i64 v] w (MakPost w (makL T.C T.S T.F day level f t v) (makE T.C T.S T.F day level f t v)) := by
  have KW : Hid (Blk ((w.alloc (.cells #[.int .i64 f, .int .i64 t] 26)).alloc (.cells (T.ts day level) 69)) w.heap.size 26 #[.int .i64 f, .int .i64 t]) := Lib.hid ((Blk.new _ _ _).alloc _)
  have K0 : Hid (Blk ((w.alloc (.cells #[.int .i64 f, .int .i64 t] 26)).alloc (.cells (T.ts day level) 69)) (w.heap.size + 1) 69 (T.ts day level)) := Lib.hid (Blk.new1 _ _ _ _)
  have HB0 : Hid (Below w.heap.size w ((w.alloc (.cells #[.int .i64 f, .int .i64 t] 26)).alloc (.cells (T.ts day level) 69))) := Lib.hid (((Below.refl _ w).alloc (Nat.le_refl _) _).alloc (by simp) _)
  have HIN := Lib.hid h
  have HD := Lib.hid hd
  have HCL := Lib.hid h.c.1
  have hcn := h.cn
  unfold maxLen at hcn
  clear h hd
  by_cases h0 : tskE T.C T.S T.F day level = 0
  · have H0 := Lib.hid h0
    have h256 : T.nC ≤ 256 := by rw [← HCL.out]; exact con_len (tsk_zero h0).1
    by_cases hw : winP f t v
    · obtain ⟨e1, e2⟩ := mak_w h0 hw
      rw [e1, e2]
      unfold winP at hw
      clear h0 e1 e2
      cases hv : witB v 0 3600
      · have HV := Lib.hid hv
        clear hv hw
        go_enter Try.func21, Try.ntmps21
        go_wp2_with (first
          | (go_at_call 31; ((with_reducible refine (tchk_val H0.out (HIN.out.up HB0.out)).mono ?_); rintro e w1 ⟨rfl, hb1⟩; have HB1 := Lib.hid (bthen HB0.out hb1 HB0.out.size); have kw := KW.out.grow hb1; have y0 := kw.cell 0; have y1 := kw.cell 1; simp at y0 y1; clear hb1 kw))
          | (go_at_call 32; ((with_reducible refine (within_val HV.out _).mono ?_); rintro e w' ⟨rfl, rfl⟩)))
        all_goals (go_ret2; exact MakPost.nil HB1.out)
      · have HV := Lib.hid hv
        have hv' := witB_iff.1 hv
        clear hv
        go_enter Try.func21, Try.ntmps21
        go_wp2_with (first
          | (go_at_call 31; ((with_reducible refine (tchk_val H0.out (HIN.out.up HB0.out)).mono ?_); rintro e w1 ⟨rfl, hb1⟩; have HB1 := Lib.hid (bthen HB0.out hb1 HB0.out.size); have kw := KW.out.grow hb1; have y0 := kw.cell 0; have y1 := kw.cell 1; simp at y0 y1; clear hb1 kw))
          | (go_at_call 32; ((with_reducible refine (within_val HV.out _).mono ?_); rintro e w' ⟨rfl, rfl⟩)))
        all_goals first | (exfalso; omega) | (go_ret2; exact MakPost.nil HB1.out)
    · have HW := Lib.hid hw
      unfold winP at hw
      have HV := Lib.hid (witB_true (n := v) (lo := 0) (hi := 3600) ⟨by omega, by omega⟩)
      have a1 : 0 ≤ f := by omega
      have a2 : f ≤ t := by omega
      have a3 : t ≤ 86400 := by omega
      have HM1 : Hid (32 < (allD T.C T.S T.F day level f t v).length → makE T.C T.S T.F day level f t v = 8 ∧ makL T.C T.S T.F day level f t v = []) := Lib.hid (mak_n h0 HW.out)
      have HM2 : Hid (¬ 32 < (allD T.C T.S T.F day level f t v).length → makE T.C T.S T.F day level f t v = 0 ∧ makL T.C T.S T.F day level f t v = allD T.C T.S T.F day level f t v) := Lib.hid (mak_ok h0 HW.out)
      obtain ⟨ME, hME⟩ : ∃ ME, makE T.C T.S T.F day level f t v = ME := ⟨_, rfl⟩
      obtain ⟨ML, hML⟩ : ∃ ML, makL T.C T.S T.F day level f t v = ML := ⟨_, rfl⟩
      rw [hME, hML] at HM1 HM2 ⊢
      clear h0 hw hME hML
      obtain ⟨i0, hi, hz0, hz1, hz2⟩ := info_parts infoD
      go_enter Try.func21, Try.ntmps21
      go_wp2_with (first
        | (go_at_call 31; ((with_reducible refine (tchk_val H0.out (HIN.out.up HB0.out)).mono ?_); rintro e w1 ⟨rfl, hb1⟩; have HB1 := Lib.hid (bthen HB0.out hb1 HB0.out.size); have KW1 := Lib.hid (KW.out.grow hb1); have KT1 := Lib.hid (K0.out.grow hb1); have y0 := KW1.out.cell 0; have y1 := KW1.out.cell 1; simp at y0 y1; clear hb1))
        | (go_at_call 32; ((with_reducible refine (within_val HV.out _).mono ?_); rintro e w' ⟨rfl, rfl⟩)))
      all_goals first | (exfalso; omega) | skip
      clear y0 y1
      go_loopw [18, 56] (fun o i wr => ∃ k : Nat, k ≤ T.nC ∧ i = .int .i64 (k : Nat) ∧ wr.ownsRow w1.heap.size 55 7 o (dk T.C T.S T.F day level f t v k).length (flD (dk T.C T.S T.F day level f t v k)) ∧ Below w1.heap.size w1 wr) (fun _ i _ => T.nC - (intOf i).toNat)
      case atStart => exact ⟨0, Nat.zero_le _, rfl, World.ownsRow_nil _ _ _ _, Below.refl _ _⟩
      case round =>
        obtain ⟨k, hk, rfl, hown, hbel⟩ := hrel
        have HO := Lib.hid hown
        have HB := Lib.hid hbel
        have HBW := Lib.hid (bthen HB1.out hbel HB1.out.size)
        have hszw := hbel.size
        have KT := Lib.hid (KT1.out.grow hbel)
        have KWr := Lib.hid (KW1.out.grow hbel)
        have hln := dk_len T.C T.S T.F day level f t v k
        clear hown hbel
        by_cases hlt : k < T.nC
        · obtain ⟨bC, oC, x, hAC, hx, hbr, hcx⟩ := con_cells HIN.out hlt HBW.out
          obtain ⟨id, kind, lit, gr, node⟩ := x
          have c0 := hcx 0 _ rfl
          rw [Nat.add_zero] at c0
          have c1 := hcx 1 _ rfl
          have c2 := hcx 2 _ rfl
          have c3 := hcx 3 _ rfl
          have c4 := hcx 4 _ rfl
          have x1 : (0 : Int) ≤ (k : Int) := by omega
          have x2 : (k : Int) < (T.nC : Int) := by omega
          have HI := Lib.hid hlt
          have HBX := Lib.hid (HBW.out.alloc HBW.out.size (.cells #[.string id, .int .i64 kind, .int .i64 lit, .int .i64 gr, .int .i64 node] 49))
          have KX := Lib.hid (Blk.new wr 49 #[.string id, .int .i64 kind, .int .i64 lit, .int .i64 gr, .int .i64 node])
          have KTX := Lib.hid (KT.out.alloc (.cells #[.string id, .int .i64 kind, .int .i64 lit, .int .i64 gr, .int .i64 node] 49))
          have KWX := Lib.hid (KWr.out.alloc (.cells #[.string id, .int .i64 kind, .int .i64 lit, .int .i64 gr, .int .i64 node] 49))
          obtain ⟨q0, q1, q2, q3, q4⟩ := tskCells KT.out
          have z1 := KT.out.lt
          rw [hAC] at q0
          obtain ⟨m, hm⟩ : ∃ m, massV T.C T.F (k : Int) = m := ⟨_, rfl⟩
          have HMM := Lib.hid hm
          clear hcx hm
          by_cases hr0 : reaV T.C T.S T.F day level (k : Int) = 0
          · have HR := Lib.hid hr0
            have HDK := Lib.hid (dk_no (f := f) (t := t) (v := v) hx hr0)
            clear hr0 hx
            rw [hAC]
            go_wp2_with (first
              | (go_at_call 33; rw [← hAC]; ((with_reducible refine (rea_val HR.out (HIN.out.up HBX.out) HI.out HD.out).mono ?_); rintro e w3 ⟨rfl, hb3⟩; have HB3 := Lib.hid hb3; clear hb3)))
            go_roundw
            case rel => exact ⟨k + 1, by omega, by go_num, by rw [HDK.out]; exact own_keepD (HO.out.alloc _) HB3.out, bthen (HB.out.alloc HB.out.size _) HB3.out (by simp; omega)⟩
            case measure => simp [intOf]; omega
          · obtain ⟨r, hr⟩ : ∃ r, reaV T.C T.S T.F day level (k : Int) = r := ⟨_, rfl⟩
            have HDK := Lib.hid (dk_yes (f := f) (t := t) (v := v) hx hr0)
            have HDA : Hid (flD [demAt T.C T.F f t v k ⟨id, kind, lit, gr, node⟩] = [.int .i64 (k : Int), .int .i64 node, .int .i64 kind, .int .i64 m, .int .i64 f, .int .i64 t, .int .i64 v]) := Lib.hid (by unfold demAt flD; rw [HMM.out]; rfl)
            rw [hr] at hr0
            have hrq : (r == 0) = false := by simpa using hr0
            have HR := Lib.hid hr
            clear hr0 hx hr
            rw [hAC]
            go_wp2_with (first
              | (go_at_call 33; rw [← hAC]; ((with_reducible refine (rea_val HR.out (HIN.out.up HBX.out) HI.out HD.out).mono ?_); rintro e w3 ⟨rfl, hb3⟩; have HB3 := Lib.hid hb3; have HBX3 := Lib.hid (bthen HBX.out hb3 HBX.out.size); have kt3 := KTX.out.grow hb3; obtain ⟨r0, r1, r2, r3, r4⟩ := tskCells kt3; have z3 := kt3.lt; rw [hAC] at r0; clear hb3 kt3))
              | (go_at_call 34; rw [← hAC]; ((with_reducible refine (cont_val HMM.out rfl (HIN.out.up HBX3.out) _ _ HI.out).mono ?_); rintro e w4 ⟨rfl, hb4⟩; have HB4 := Lib.hid hb4; have kx4 := (KX.out.grow HB3.out).grow hb4; have u4 := kx4.cell 4; have u1 := kx4.cell 1; have kw4 := (KWX.out.grow HB3.out).grow hb4; have v0 := kw4.cell 0; have v1 := kw4.cell 1; have zx := kx4.lt; have zw := kw4.lt; simp at u4 u1 v0 v1; have HO4 := Lib.hid (own_keepD (own_keepD (HO.out.alloc _) HB3.out) hb4); have hs3 := HB3.out.size; have hs4 := hb4.size; simp at hs3; clear hb4 kx4 kw4))
              | (at_builtin; refine wpList_append_own_at _ rfl _ _ 31 rfl w1.heap.size 55 i0 (.agg #[.int .i64 0, .int .i64 0, .int .i64 0, .int .i64 0, .int .i64 0, .int .i64 0, .int .i64 0]) 7 56 Try.underlying31 hi hz0 hz1 hz2 rfl (by decide) _ _ _ rfl (HO4.out.alloc _) ⟨w4.heap.size, 0, none⟩ 1 1 [.int .i64 (k : Int), .int .i64 node, .int .i64 kind, .int .i64 m, .int .i64 f, .int .i64 t, .int .i64 v] rfl rfl (World.news_of_block (heap_alloc_new _ _)) (by intro u hu; simp at hu; rcases hu with rfl | rfl | rfl | rfl | rfl | rfl | rfl <;> rfl) (by unfold maxLen; omega) (by omega) (by simp; omega) ?_; intro v' w5 hown5 hg5 _ hat5; have HO5 := Lib.hid hown5; have HG5 := Lib.hid hg5; clear hown5 hg5 hat5))
            go_roundw
            case rel =>
              refine ⟨k + 1, by omega, by go_num, ?_, ?_⟩
              · rw [HDK.out, flD_snoc, show (demAt T.C T.F f t v k ⟨id, kind, lit, gr, node⟩).cs = [.int .i64 (k : Int), .int .i64 node, .int .i64 kind, .int .i64 m, .int .i64 f, .int .i64 t, .int .i64 v] by have := HDA.out; simpa [flD] using this, List.length_append]
                exact HO5.out
              · exact ((bthen (bthen (HB.out.alloc HB.out.size _) HB3.out (by simp; omega)) HB4.out (by omega)).alloc (by omega) _).grown HG5.out (by simp; omega) (fun i e => (HO4.out.lt i e).1)
            case measure => simp [intOf]; omega
        · have e : k = T.nC := by omega
          subst e
          obtain ⟨A, c, rfl, hcap, hrd⟩ := own_dems HO.out
          have HRD := Lib.hid (hrd.mono (S' := (· < wr.heap.size)) fun b hb => hb.2)
          have HDA := Lib.hid (dk_all (S := T.S) (F := T.F) (day := day) (level := level) (f := f) (t := t) (v := v) HCL.out)
          rw [HDA.out] at HRD hln hcap ⊢
          have HCAP := Lib.hid hcap
          clear hrd hcap
          by_cases hn : 32 < (allD T.C T.S T.F day level f t v).length
          · obtain ⟨e1, e2⟩ := HM1.out hn
            subst e1
            subst e2
            go_wp2
            go_ret2
            exact MakPost.nil HBW.out
          · obtain ⟨e1, e2⟩ := HM2.out hn
            subst e1
            subst e2
            go_wp2
            go_ret2
            exact ⟨A, c, rfl, HCAP.out, HRD.out, HBW.out⟩
  · obtain ⟨e1, e2⟩ := mak_e (f := f) (t := t) (v := v) h0
    rw [e1, e2]
    obtain ⟨E, hEE⟩ : ∃ E, tskE T.C T.S T.F day level = E := ⟨_, rfl⟩
    rw [hEE] at h0 ⊢
    have H0 := Lib.hid hEE
    have he2 : (E != 0) = true := by simpa using h0
    clear h0 e1 e2 hEE
    go_enter Try.func21, Try.ntmps21
    go_wp2_with (first
      | (go_at_call 31; ((with_reducible refine (tchk_val H0.out (HIN.out.up HB0.out)).mono ?_); rintro e w1 ⟨rfl, hb1⟩; have HB1 := Lib.hid (bthen HB0.out hb1 HB0.out.size); clear hb1)))
    go_ret2
    exact MakPost.nil HB1.out
end Go.Proofs.Ytpeidgfaejnhiaa
