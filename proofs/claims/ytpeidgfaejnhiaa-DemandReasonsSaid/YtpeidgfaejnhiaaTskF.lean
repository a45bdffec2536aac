/- The contract of the reference's reasons. -/
import Derived.Test.YtpeidgfaejnhiaaTskE
import Derived.IntWalk
namespace Go.Proofs.Ytpeidgfaejnhiaa
open Go.RowKit Go.Maps

theorem tsk_zero {C : List Con} {S : List Sch} {F : List Fil} {day level : Int} (h : tskE C S F day level = 0) : chkL C 16 64 = 0 ∧ schsE C.length S = 0 ∧ filsE C F = 0 ∧ 0 ≤ day ∧ day ≤ 36524 ∧ 1 ≤ level ∧ level ≤ 1000 := by
  by_cases h1 : chkL C 16 64 = 0
  · by_cases h2 : schsE C.length S = 0
    · by_cases h3 : filsE C F = 0
      · rw [tsk_d h1 h2 h3] at h
        split at h
        · cases h
        · exact ⟨h1, h2, h3, by omega, by omega, by omega, by omega⟩
      · rw [tsk_f h1 h2 h3] at h; exact absurd h h3
    · rw [tsk_s h1 h2] at h; exact absurd h h2
  · rw [tsk_c h1] at h; exact absurd h h1
theorem con_ok {C : List Con} {m n : Int} (h : chkL C m n = 0) {x : Con} (hx : x ∈ C) : 0 ≤ x.kind ∧ x.kind < m ∧ 1 ≤ x.gr ∧ x.gr ≤ 1073741824 ∧ 0 ≤ x.node ∧ x.node < n := by
  have h0 : conE x m n = 0 := by
    unfold chkL at h
    split at h
    · cases h
    · split at h
      · rename_i h1 h2; exact absurd h h2
      · rename_i h1 h2
        have h3 : firstE (C.map (conE · m n)) = 0 := Decidable.not_not.1 h2
        exact firstE_zero_iff.1 h3 _ (List.mem_map.2 ⟨x, hx, rfl⟩)
  unfold conE at h0
  split at h0
  · cases h0
  · split at h0
    · cases h0
    · split at h0
      · cases h0
      · split at h0
        · cases h0
        · refine ⟨?_, ?_, ?_, ?_, ?_, ?_⟩ <;> omega
theorem con_len {C : List Con} {m n : Int} (h : chkL C m n = 0) : C.length ≤ 256 := by
  unfold chkL at h
  split at h
  · cases h
  · omega
theorem fil_ok {C : List Con} {F : List Fil} (h : filsE C F = 0) : (F.map Fil.con).Nodup ∧ ∀ f ∈ F, 0 ≤ f.con ∧ f.con < C.length ∧ 0 ≤ f.lo ∧ f.lo ≤ f.hi ∧ f.hi ≤ grAt C f.con := by
  unfold filsE at h
  split at h
  · cases h
  · split at h
    · rename_i h1 h2; exact absurd h h2
    · rename_i h1 h2
      split at h
      · rename_i h3
        refine ⟨h3, fun f hf => ?_⟩
        have h4 := firstE_zero_iff.1 (Decidable.not_not.1 h2) _ (List.mem_map.2 ⟨f, hf, rfl⟩)
        unfold filE at h4
        split at h4
        · cases h4
        · split at h4
          · cases h4
          · refine ⟨?_, ?_, ?_, ?_, ?_⟩ <;> omega
      · cases h
/-- whether a container with g grams, x of which are there, has reached a level -/
def lvlB (g x level : Int) : Bool := decide (level ≤ (x * 1000 + g - 1) / g)
theorem lvl_is {g x level : Int} (h1 : 1 ≤ g) (h2 : g ≤ 1073741824) (h3 : 0 ≤ x) (h4 : x ≤ 1073741824) (h5 : level ≤ 1000) : levE g x = 0 ∧ (decide (level ≤ levV g x) = lvlB g x level) := by
  have hb : ¬ levB g x := by unfold levB; omega
  refine ⟨if_neg hb, ?_⟩
  unfold lvlB
  rw [show levV g x = min ((x * 1000 + g - 1) / g) 1000 from if_neg hb]
  by_cases h : level ≤ (x * 1000 + g - 1) / g
  · rw [decide_eq_true h]; exact decide_eq_true (by omega)
  · rw [decide_eq_false h]; exact decide_eq_false (by omega)

/-- what the reference's loop over the fills holds behind k rounds -/
def Rr (F : List Fil) (gr level i du : Int) (k : Nat) (why grams : Int) : Prop :=
  ((∀ f ∈ F.take k, f.con ≠ i) ∧ why = du ∧ grams = gr) ∨ (∃ j f, j < k ∧ F[j]? = some f ∧ f.con = i ∧ grams = f.hi ∧ why = du + if lvlB gr f.hi level then 2 else 0)
theorem Rr.no {F : List Fil} {gr level i du : Int} {k : Nat} {why grams : Int} {f : Fil} (h : Rr F gr level i du k why grams) (hf : F[k]? = some f) (hn : f.con ≠ i) : Rr F gr level i du (k + 1) why grams := by
  rcases h with ⟨h1, h2, h3⟩ | ⟨j, x, h1, h2⟩
  · refine .inl ⟨fun y hy => ?_, h2, h3⟩
    rw [List.take_add_one, hf] at hy
    rcases List.mem_append.1 hy with hy | hy
    · exact h1 y hy
    · rw [List.mem_singleton.1 hy]; exact hn
  · exact .inr ⟨j, x, by omega, h2⟩
theorem Rr.first {F : List Fil} {gr level i du : Int} {k : Nat} {why grams : Int} {f : Fil} (h : Rr F gr level i du k why grams) (hnd : (F.map Fil.con).Nodup) (hf : F[k]? = some f) (hn : f.con = i) : why = du := by
  rcases h with ⟨h1, h2, h3⟩ | ⟨j, x, h1, hx, h2, _⟩
  · exact h2
  · exfalso
    have hk : (F.map Fil.con)[k]? = some i := by simp [hf, hn]
    have hj : (F.map Fil.con)[j]? = some i := by simp [hx, h2]
    exact nod_not hk (List.mem_of_getElem? (i := j) (by rw [List.getElem?_take_of_lt h1]; exact hj)) hnd
theorem Rr.yes {F : List Fil} {gr level i du : Int} {k : Nat} {f : Fil} (hf : F[k]? = some f) (hn : f.con = i) {b : Bool} (hb : lvlB gr f.hi level = b) : Rr F gr level i du (k + 1) (du + if b then 2 else 0) f.hi :=
  .inr ⟨k, f, by omega, hf, hn, rfl, by rw [hb]⟩
theorem Rr.done {C : List Con} {S : List Sch} {F : List Fil} {day level : Int} {i : Nat} {x : Con} {why grams : Int} (hx : C[i]? = some x) (h5 : tskE C S F day level = 0) (h : Rr F x.gr level i (if dueA S i day then 1 else 0) F.length why grams) : why = reaV C S F day level i ∧ grams = massV C F i := by
  obtain ⟨hc, _, hf, _, _, l1, l2⟩ := tsk_zero h5
  obtain ⟨hnd, hfo⟩ := fil_ok hf
  have hg := grAt_is hx
  obtain ⟨_, _, g1, g2, _⟩ := con_ok hc (List.mem_of_getElem? hx)
  rcases h with ⟨h1, h2, h3⟩ | ⟨j, f, hj, hfj, hfi, h2, h3⟩
  · have hv : filI F (i : Int) = -1 := idxV_miss (fun y hy => by simpa using h1 y (by rw [List.take_length]; exact hy))
    have hm : massV C F i = x.gr := by unfold massV; rw [if_pos hv, hg]
    have hk : knownB F (i : Int) = false := by unfold knownB; rw [hv]; rfl
    refine ⟨?_, h3.trans hm.symm⟩
    unfold reaV
    rw [full_not hk, h2]
    simp
  · have hv : filI F (i : Int) = (j : Int) := idxV_hit (fun y hy => by
      obtain ⟨t, ht⟩ := List.getElem?_of_mem hy
      have htj : t < j := by
        rcases Nat.lt_or_ge t j with h4 | h4
        · exact h4
        · rw [List.getElem?_eq_none (by rw [List.length_take]; omega)] at ht; cases ht
      rw [List.getElem?_take_of_lt htj] at ht
      have hjc : (F.map Fil.con)[j]? = some (i : Int) := by simp [hfj, hfi]
      rw [decide_eq_false_iff_not]
      intro e
      exact nod_not hjc (List.mem_of_getElem? (i := t) (by rw [List.getElem?_take_of_lt htj]; simp [ht, e])) hnd) hfj (by simp [hfi])
    have hm : massV C F i = f.hi := by
      unfold massV
      rw [hv, if_neg (by omega)]
      unfold hiAt
      rw [Int.toNat_natCast, hfj]
    have hk : knownB F (i : Int) = true := by unfold knownB; rw [hv, decide_eq_false (by omega)]; rfl
    obtain ⟨f1, f2, f3, f4, f5⟩ := hfo f (List.mem_of_getElem? hfj)
    rw [hfi, hg] at f5
    obtain ⟨e1, e2⟩ := lvl_is g1 g2 (by omega : 0 ≤ f.hi) (by omega) l2
    refine ⟨?_, h2.trans hm.symm⟩
    unfold reaV
    rw [full_known hk hg hm rfl rfl, e1, e2, h3]
    simp
theorem any_take {α : Type} {L : List α} {p : α → Bool} {k : Nat} {x : α} (hx : L[k]? = some x) : (L.take (k + 1)).any p = ((L.take k).any p || p x) := by
  rw [List.take_add_one, hx, List.any_append]
  simp

/-- whether one of the first k schedules asks for a container, as a number -/
def dueN (S : List Sch) (i day : Int) (k : Nat) : Int := if (S.take k).any (fun s => decide (s.con = i) && isDue s day) then 1 else 0
theorem dueN_no {S : List Sch} {i day : Int} {k : Nat} {x : Sch} (hx : S[k]? = some x) (h : (decide (x.con = i) && isDue x day) = false) : dueN S i day (k + 1) = dueN S i day k := by
  unfold dueN
  rw [any_take (p := fun s : Sch => decide (s.con = i) && isDue s day) hx]
  simp only [h, Bool.or_false]
theorem dueN_yes {S : List Sch} {i day : Int} {k : Nat} {x : Sch} (hx : S[k]? = some x) (h : (decide (x.con = i) && isDue x day) = true) : dueN S i day (k + 1) = 1 := by
  unfold dueN
  rw [any_take (p := fun s : Sch => decide (s.con = i) && isDue s day) hx]
  simp only [h, Bool.or_true, if_true]
theorem dueN_all {S : List Sch} {i day : Int} {n : Nat} (h : S.length = n) : dueN S i day n = if dueA S i day then 1 else 0 := by
  unfold dueN dueA
  rw [List.take_of_length_le (by omega)]
theorem dueN_bd (S : List Sch) (i day : Int) (k : Nat) : 0 ≤ dueN S i day k ∧ dueN S i day k ≤ 1 := by unfold dueN; split <;> omega

set_option maxRecDepth 100000 in
set_option maxHeartbeats 3200000 in
theorem rrea_any {w : World} {T : Tri} (h : T.In w) (day level : Int) {i : Nat} (hi : i < T.nC) (h0 : tskE T.C T.S T.F day level = 0) :
    Calls Try.prog 24 #[.slice T.AC T.nC T.cC, .slice T.AS T.nS T.cS, .slice T.AF T.nF T.cF, .int .i64 day, .int .i64 level, .int .i64 (i : Int)] w fun e w' => e = .returned (.tuple #[.int .i64 (reaV T.C T.S T.F day level i), .int .i64 (massV T.C T.F i)]) ∧ Below w.heap.size w w' := by
  have HIN := Lib.hid h
  have hcn := h.cn
  have hsn := h.sn
  have hfn := h.fn
  unfold maxLen at hcn hsn hfn
  have HSL := Lib.hid h.s.1
  have HFL := Lib.hid h.f.1
  have HI := Lib.hid hi
  obtain ⟨bC, oC, xc, hAC, hxc, hbC, hcC⟩ := con_cells h hi (Below.refl _ _)
  have HG := Lib.hid (grAt_is hxc)
  have HX := Lib.hid hxc
  obtain ⟨z1, z2, z3, _, _, l1, l2⟩ := tsk_zero h0
  obtain ⟨_, _, g1, g2, _⟩ := con_ok z1 (List.mem_of_getElem? hxc)
  obtain ⟨hnd, hfo⟩ := fil_ok z3
  have HND := Lib.hid hnd
  have HFO := Lib.hid hfo
  have H0 := Lib.hid h0
  have HDO : Hid (∀ why grams, Rr T.F xc.gr level i (if dueA T.S i day then 1 else 0) T.F.length why grams → why = reaV T.C T.S T.F day level i ∧ grams = massV T.C T.F i) := Lib.hid fun why grams hr => Rr.done hxc h0 hr
  obtain ⟨R, hR⟩ : ∃ R, reaV T.C T.S T.F day level i = R := ⟨_, rfl⟩
  obtain ⟨M, hM⟩ : ∃ M, massV T.C T.F i = M := ⟨_, rfl⟩
  rw [hR, hM] at HDO ⊢
  have HCC : Hid (∀ W, Below w.heap.size w W → bC < W.heap.size ∧ W.cell? ⟨bC, oC + i * 5 + 3, none⟩ = some (.int .i64 xc.gr)) := Lib.hid (fun W hW => ⟨Nat.lt_of_lt_of_le hbC hW.size, (hW.cell (p := ⟨bC, oC + i * 5 + 3, none⟩) hbC).trans (hcC 3 _ rfl)⟩)
  obtain ⟨_, cg⟩ := HCC.out w (Below.refl _ _)
  clear h hnd hfo h0 z1 z2 z3 hR hM hcC hxc
  obtain ⟨AC, nC, cC, C, AS, nS, cS, S, AF, nF, cF, F⟩ := T
  simp only at hcn hsn hfn HSL HFL HI hi hAC HG HX HND HFO H0 HDO ⊢
  subst hAC
  have x1 : (0 : Int) ≤ (i : Int) := by omega
  have x2 : (i : Int) < (nC : Int) := by omega
  go_enter Try.func24, Try.ntmps24
  go_wp2_with fail
  go_quiet (fail)
  go_wp2
  clear cg
  go_loopw [14, 16] (fun y t wr => ∃ k : Nat, k ≤ nS ∧ t = .int .i64 (k : Nat) ∧ y = .int .i64 (dueN S i day k) ∧ Below w.heap.size w wr) (fun _ t _ => nS - (intOf t).toNat)
  case atStart => exact ⟨0, Nat.zero_le _, rfl, rfl, belowN (Below.refl _ _) _⟩
  case round =>
    obtain ⟨k, hk, rfl, rfl, hbel⟩ := hrel
    have HB := Lib.hid hbel
    clear hbel
    by_cases hlt : k < nS
    · obtain ⟨x, hx⟩ := at_lt (l := S) (k := k) (by rw [HSL.out]; exact hlt)
      obtain ⟨b, o, rfl, hb, hc⟩ := HIN.out.s.2 (by simp only; omega)
      have hcx := (HIN.out.s.cells_ hlt hx HB.out).2
      have c0 := hcx 0 _ rfl
      rw [Nat.add_zero] at c0
      have c1 := hcx 1 _ rfl
      have c2 := hcx 2 _ rfl
      have c3 := hcx 3 _ rfl
      clear hcx hc
      have HSX := Lib.hid ((HIN.out.sok x (List.mem_of_getElem? hx)).up HB.out)
      have HT := Lib.hid hx
      clear hx
      by_cases hq : x.con = (i : Int)
      · obtain ⟨con, st, ev, mA, mn, mc, mv⟩ := x
        simp only at hq c0 c1 c2 c3
        subst hq
        cases hu : isDue ⟨(i : Int), st, ev, mA, mn, mc, mv⟩ day
        · have HU := Lib.hid hu
          have HV : Hid (dueN S i day (k + 1) = dueN S i day k) := Lib.hid (dueN_no HT.out (by rw [hu]; simp))
          clear hu
          go_wp2_with (go_at_call 39; refine (risdue_any ⟨(i : Int), st, ev, mA, mn, mc, mv⟩ HSX.out day).mono ?_; rw [HU.out]; rintro e w1 ⟨rfl, hb1⟩; have HB1 := Lib.hid (bthen HB.out hb1 HB.out.size); clear hb1)
          go_roundw
          case rel => exact ⟨k + 1, by omega, by go_num, by rw [HV.out], HB1.out⟩
          case measure => simp [intOf]; omega
        · have HU := Lib.hid hu
          have HV : Hid (dueN S i day (k + 1) = 1) := Lib.hid (dueN_yes HT.out (by rw [hu]; simp))
          clear hu
          go_wp2_with (go_at_call 39; refine (risdue_any ⟨(i : Int), st, ev, mA, mn, mc, mv⟩ HSX.out day).mono ?_; rw [HU.out]; rintro e w1 ⟨rfl, hb1⟩; have HB1 := Lib.hid (bthen HB.out hb1 HB.out.size); clear hb1)
          go_roundw
          case rel => exact ⟨k + 1, by omega, by go_num, by rw [HV.out], HB1.out⟩
          case measure => simp [intOf]; omega
      · have he : (x.con == (i : Int)) = false := by simpa using hq
        have HV : Hid (dueN S i day (k + 1) = dueN S i day k) := Lib.hid (dueN_no HT.out (by rw [decide_eq_false hq]; rfl))
        clear hq
        go_wp2
        go_roundw
        case rel => exact ⟨k + 1, by omega, by go_num, by rw [HV.out], HB.out⟩
        case measure => simp [intOf]; omega
    · have e : k = nS := by omega
      subst e
      have HDU : Hid ((if dueA S i day then (1 : Int) else 0) = dueN S i day k) := Lib.hid (dueN_all HSL.out).symm
      have du0 := dueN_bd S i day k
      obtain ⟨du, hdu⟩ : ∃ du : Int, dueN S i day k = du := ⟨_, rfl⟩
      rw [hdu] at HDU du0 ⊢
      clear hdu
      obtain ⟨du1, du2⟩ := du0
      obtain ⟨wo, rfl⟩ : ∃ wo : World, wo = wr := ⟨_, rfl⟩
      go_wp2
      go_loopw [14, 15, 17] (fun y g t wx => ∃ (j : Nat) (why grams : Int), j ≤ nF ∧ t = .int .i64 (j : Nat) ∧ y = .int .i64 why ∧ g = .int .i64 grams ∧ Rr F xc.gr level i du j why grams ∧ Below w.heap.size w wx) (fun _ _ t _ => nF - (intOf t).toNat)
      case atStart => exact ⟨0, du, xc.gr, Nat.zero_le _, rfl, rfl, rfl, .inl ⟨by simp, rfl, rfl⟩, HB.out⟩
      case round =>
        obtain ⟨j, why, grams, hj, rfl, rfl, rfl, hR, hbx⟩ := hrel
        have HR := Lib.hid hR
        have HBX := Lib.hid hbx
        clear hR hbx
        by_cases hlt2 : j < nF
        · obtain ⟨x, hx⟩ := at_lt (l := F) (k := j) (by rw [HFL.out]; exact hlt2)
          obtain ⟨con, lo, hf⟩ := x
          obtain ⟨b, o, rfl, hb, hc⟩ := HIN.out.f.2 (by simp only; omega)
          have hcx := (HIN.out.f.cells_ hlt2 hx HBX.out).2
          have c0 := hcx 0 _ rfl
          rw [Nat.add_zero] at c0
          have c1 := hcx 1 _ rfl
          have c2 := hcx 2 _ rfl
          have hbr : b < wr.heap.size := Nat.lt_of_lt_of_le hb HBX.out.size
          obtain ⟨f1, f2, f3, f4, f5⟩ := HFO.out _ (List.mem_of_getElem? hx)
          have HF := Lib.hid hx
          clear hcx hc hx
          by_cases hq : con = (i : Int)
          · subst hq
            simp only at f1 f2 f3 f4 f5
            rw [HG.out] at f5
            have hwd : Hid (why = du) := Lib.hid (HR.out.first HND.out HF.out rfl)
            have hw := hwd.out
            subst hw
            obtain ⟨cbl, cg⟩ := HCC.out wr HBX.out
            have s1 : IntKind.i64.wrap (hf * 1000) = hf * 1000 := IntWalk.i64_in _ (by omega)
            have s2 : IntKind.i64.wrap (hf * 1000 + xc.gr) = hf * 1000 + xc.gr := IntWalk.i64_in _ (by omega)
            have s3 : IntKind.i64.wrap (hf * 1000 + xc.gr - 1) = hf * 1000 + xc.gr - 1 := IntWalk.i64_in _ (by omega)
            have s4 : (hf * 1000 + xc.gr - 1).tdiv xc.gr = (hf * 1000 + xc.gr - 1) / xc.gr := Int.tdiv_eq_ediv_of_nonneg (by omega)
            have hq := div_bd (hf * 1000 + xc.gr - 1) xc.gr (by omega) (by omega)
            have s5 : IntKind.i64.wrap ((hf * 1000 + xc.gr - 1) / xc.gr) = (hf * 1000 + xc.gr - 1) / xc.gr := IntWalk.i64_in _ (by omega)
            have nz : (xc.gr == 0) = false := by simp; omega
            have HQ := Lib.hid hq
            clear hq f1 f2
            cases hl : lvlB xc.gr hf level
            · have hl2 : decide (level ≤ (hf * 1000 + xc.gr - 1) / xc.gr) = false := hl
              have HL := Lib.hid hl
              clear hl
              go_wp2_with fail
              go_quiet (fail)
              clear s1 s2 s3 s4 s5
              go_wp2
              go_roundw
              case rel => exact ⟨j + 1, _, _, by omega, by go_num, rfl, rfl, by have := Rr.yes (gr := xc.gr) (level := level) (du := why) HF.out rfl HL.out; simpa using this, belowN HBX.out _⟩
              case measure => simp [intOf]; omega
            · have hl2 : decide (level ≤ (hf * 1000 + xc.gr - 1) / xc.gr) = true := hl
              have HL := Lib.hid hl
              clear hl
              go_wp2_with fail
              go_quiet (fail)
              clear s1 s2 s3 s4 s5
              go_wp2
              go_roundw
              case rel => exact ⟨j + 1, _, _, by omega, by go_num, rfl, rfl, by have := Rr.yes (gr := xc.gr) (level := level) (du := why) HF.out rfl HL.out; simpa using this, belowN HBX.out _⟩
              case measure => simp [intOf]; omega
          · have he : (con == (i : Int)) = false := by simpa using hq
            have he2 : (con != (i : Int)) = true := by simpa using hq
            have HQ := Lib.hid hq
            clear hq f1 f2 f3 f4 f5
            go_wp2
            go_roundw
            case rel => exact ⟨j + 1, _, _, by omega, by go_num, rfl, rfl, HR.out.no HF.out HQ.out, HBX.out⟩
            case measure => simp [intOf]; omega
        · have e : j = nF := by omega
          subst e
          obtain ⟨r1, r2⟩ := HDO.out why grams (by rw [HDU.out, HFL.out]; exact HR.out)
          subst r1
          subst r2
          go_wp2
          go_ret2
          exact ⟨rfl, HBX.out⟩
end Go.Proofs.Ytpeidgfaejnhiaa
