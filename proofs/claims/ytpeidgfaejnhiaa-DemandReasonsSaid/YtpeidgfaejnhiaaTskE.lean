/- The contract of task.reasons. -/
import Derived.Test.YtpeidgfaejnhiaaTskD
namespace Go.Proofs.Ytpeidgfaejnhiaa
open Go.RowKit Go.Maps

set_option maxRecDepth 100000 in
set_option maxHeartbeats 800000 in
theorem rea1_any (x : Sch) (i day : Int) (Bi Bt : Nat) (W : World) (hi : W.cell? ⟨Bi, 0, none⟩ = some (.int .i64 i)) (ht : W.cell? ⟨Bt, 3, none⟩ = some (.int .i64 day)) (hx : SchIn W x) (hd : i64ok day) :
    Calls Try.prog 47 #[.agg x.vs, .pointer (some ⟨Bi, 0, none⟩), .pointer (some ⟨Bt, 0, none⟩)] W fun e w' => e = .returned (.bool (decide (x.con = i) && isDue x day)) ∧ Below W.heap.size W w' := by
  have hlt : Bi < W.heap.size := World.block_lt_of_cell? _ _ hi
  have hlt2 : Bt < W.heap.size := World.block_lt_of_cell? _ _ ht
  have hi' : (W.alloc (.cells x.vs 45)).cell? ⟨Bi, 0, none⟩ = some (.int .i64 i) := (World.cell?_alloc_lt W _ ⟨Bi, 0, none⟩ hlt).trans hi
  have ht' : (W.alloc (.cells x.vs 45)).cell? ⟨Bt, 3, none⟩ = some (.int .i64 day) := (World.cell?_alloc_lt W _ ⟨Bt, 3, none⟩ hlt2).trans ht
  have HB := Lib.hid ((Below.refl W.heap.size W).alloc (Nat.le_refl _) (.cells x.vs 45))
  have HX := Lib.hid (hx.up HB.out)
  have HD := Lib.hid hd
  clear hi ht hx hd
  by_cases h : x.con = i
  · subst h
    cases hu : isDue x day
    · have HU := Lib.hid hu
      have HV : Hid (isDue x day = false) := Lib.hid hu
      clear hu
      go_enter Try.func47, Try.ntmps47
      go_wp2_with (go_at_call 18; refine (isdue_any x HX.out day HD.out).mono ?_; rw [HU.out]; rintro e w1 ⟨rfl, hb1⟩; have HB1 := Lib.hid (bthen HB.out hb1 HB.out.size); clear hb1)
      go_ret
      exact ⟨ret_bool (by simp), HB1.out⟩
    · have HU := Lib.hid hu
      clear hu
      go_enter Try.func47, Try.ntmps47
      go_wp2_with (go_at_call 18; refine (isdue_any x HX.out day HD.out).mono ?_; rw [HU.out]; rintro e w1 ⟨rfl, hb1⟩; have HB1 := Lib.hid (bthen HB.out hb1 HB.out.size); clear hb1)
      go_ret
      exact ⟨ret_bool (by simp), HB1.out⟩
  · have he : (x.con == i) = false := by simpa using h
    have H := Lib.hid h
    clear h
    go_enter Try.func47, Try.ntmps47
    go_wp2
    go_ret
    exact ⟨ret_bool (by simp [H.out]), HB.out⟩
theorem conts_val {b : Bool} {w : World} {T : Tri} {i day : Int} {Bi Bt : Nat} (hb : dueA T.S i day = b) (h : T.In w) (hi : w.cell? ⟨Bi, 0, none⟩ = some (.int .i64 i)) (ht : w.cell? ⟨Bt, 3, none⟩ = some (.int .i64 day)) (hd : i64ok day) :
    Calls Try.prog 46 #[.slice T.AS T.nS T.cS, .func (.func 47) #[] #[.pointer (some ⟨Bi, 0, none⟩), .pointer (some ⟨Bt, 0, none⟩)]] w fun e w' => e = .returned (.bool b) ∧ Below w.heap.size w w' := by
  rw [← hb]
  have hlt : Bi < w.heap.size := World.block_lt_of_cell? _ _ hi
  have hlt2 : Bt < w.heap.size := World.block_lt_of_cell? _ _ ht
  exact contains_sch h.s h.sn (enters_of Try.func47 (by kernel_rfl) rfl) fun x hx W hW =>
    rea1_any x i day Bi Bt W ((hW.cell (p := ⟨Bi, 0, none⟩) hlt).trans hi) ((hW.cell (p := ⟨Bt, 3, none⟩) hlt2).trans ht) ((h.sok x hx).up hW) hd
theorem cont_val {m : Int} {k : Bool} {w : World} {T : Tri} {i : Nat} (hm : massV T.C T.F i = m) (hk : knownB T.F i = k) (h : T.In w) (day level : Int) (hi : i < T.nC) :
    Calls Try.prog 34 #[.agg (T.ts day level), .int .i64 (i : Int)] w fun e w' => e = .returned (.tuple #[.int .i64 m, .bool k]) ∧ Below w.heap.size w w' := by
  rw [← hm, ← hk]; exact cont_any h day level hi
theorem level_val {lv le : Int} {id : ByteArray} {a b g d x : Int} (h1 : levV g x = lv) (h2 : levE g x = le) (w : World) :
    Calls Try.prog 19 #[.agg #[.string id, .int .i64 a, .int .i64 b, .int .i64 g, .int .i64 d], .int .i64 x] w fun e w' => e = .returned (.tuple #[.int .i64 lv, .int .i64 le]) ∧ w' = w.alloc (.cells #[.string id, .int .i64 a, .int .i64 b, .int .i64 g, .int .i64 d] 49) := by
  rw [← h1, ← h2]; exact level_any ⟨id, a, b, g, d⟩ x w
theorem or01 : bits .or .i64 0 1 = 1 := by kernel_rfl
theorem or02 : bits .or .i64 0 2 = 2 := by kernel_rfl
theorem or12 : bits .or .i64 1 2 = 3 := by kernel_rfl
theorem rea_of {C : List Con} {S : List Sch} {F : List Fil} {day level i : Int} {b f : Bool} (hb : dueA S i day = b) (hf : fullB C F level i = f) : reaV C S F day level i = (if b then 1 else 0) + if f then 2 else 0 := by unfold reaV; rw [hb, hf]
theorem full_not {C : List Con} {F : List Fil} {level i : Int} (h : knownB F i = false) : fullB C F level i = false := by unfold fullB; rw [h]; rfl
theorem full_known {C : List Con} {F : List Fil} {level i : Int} {x : Con} {m lv le : Int} (h : knownB F i = true) (hg : grAt C i = x.gr) (hm : massV C F i = m) (h1 : levV x.gr m = lv) (h2 : levE x.gr m = le) : fullB C F level i = (decide (le = 0) && decide (level ≤ lv)) := by
  unfold fullB; rw [h, hg, hm, h1, h2]; rfl

set_option maxRecDepth 100000 in
set_option maxHeartbeats 3200000 in
theorem rea_any {w : World} {T : Tri} (h : T.In w) (day level : Int) {i : Nat} (hi : i < T.nC) (hd : i64ok day) :
    Calls Try.prog 33 #[.agg (T.ts day level), .int .i64 (i : Int)] w fun e w' => e = .returned (.int .i64 (reaV T.C T.S T.F day level i)) ∧ Below w.heap.size w w' := by
  have K0 : Blk ((w.alloc (.cells (T.ts day level) 69)).alloc (.cells #[.int .i64 (i : Int)] 3)) w.heap.size 69 (T.ts day level) := (Blk.new _ _ _).alloc _
  have KI : Blk ((w.alloc (.cells (T.ts day level) 69)).alloc (.cells #[.int .i64 (i : Int)] 3)) (w.heap.size + 1) 3 #[.int .i64 (i : Int)] := Blk.new1 _ _ _ _
  have HB0 : Hid (Below w.heap.size w ((w.alloc (.cells (T.ts day level) 69)).alloc (.cells #[.int .i64 (i : Int)] 3))) := Lib.hid (((Below.refl _ w).alloc (Nat.le_refl _) _).alloc (by simp) _)
  have HIN := Lib.hid h
  have HD := Lib.hid hd
  have hcn := h.cn
  unfold maxLen at hcn
  have HI := Lib.hid hi
  have HK := Lib.hid K0
  have HKI := Lib.hid (KI.cell 0)
  have HKT := Lib.hid (K0.cell 3)
  have HKB := Lib.hid KI
  obtain ⟨_, _, xc, hAC, hxc, _, _⟩ := con_cells h hi (Below.refl _ _)
  have HXC := Lib.hid hxc
  have HG := Lib.hid (grAt_is hxc)
  obtain ⟨m, hm⟩ : ∃ m, massV T.C T.F i = m := ⟨_, rfl⟩
  obtain ⟨lv, hlv⟩ : ∃ lv, levV xc.gr m = lv := ⟨_, rfl⟩
  obtain ⟨le, hle⟩ : ∃ le, levE xc.gr m = le := ⟨_, rfl⟩
  have HM := Lib.hid hm
  have HLV := Lib.hid hlv
  have HLE := Lib.hid hle
  have hor1 := or01
  have hor2 := or02
  have hor3 := or12
  clear h K0 KI hAC hxc hm hlv hle hd
  obtain ⟨fb, hfb⟩ : ∃ fb, fullB T.C T.F level i = fb := ⟨_, rfl⟩
  cases hb : dueA T.S i day <;> cases hk : knownB T.F i
  · have HDU := Lib.hid hb
    have HKN := Lib.hid hk
    rw [rea_of hb hfb]
    have HF : Hid (fb = false) := Lib.hid (by rw [← hfb]; exact full_not hk)
    rw [HF.out]
    clear hb hk hfb
    go_enter Try.func33, Try.ntmps33
    go_wp2_with (first
      | (go_at_call 46; ((with_reducible refine (conts_val HDU.out (HIN.out.up HB0.out) HKI.out HKT.out HD.out).mono ?_); rintro e w1 ⟨rfl, hb1⟩; have HB1 := Lib.hid (bthen HB0.out hb1 HB0.out.size); have K1 := Lib.hid (HK.out.grow hb1); have KI1 := Lib.hid (HKB.out.grow hb1); obtain ⟨c0, c1, c2, c3, c4⟩ := tskCells K1.out; have ci := KI1.out.cell 0; have z1 := KI1.out.lt; simp at ci; clear hb1))
      | (go_at_call 34; ((with_reducible refine (cont_val HM.out HKN.out (HIN.out.up HB1.out) _ _ HI.out).mono ?_); rintro e w2 ⟨rfl, hb2⟩; have HB2 := Lib.hid (bthen HB1.out hb2 HB1.out.size); have K2 := Lib.hid (K1.out.grow hb2); have KI2 := Lib.hid (KI1.out.grow hb2); obtain ⟨d0, d1, d2, d3, d4⟩ := tskCells K2.out; have di := KI2.out.cell 0; have z2 := KI2.out.lt; have z2b := K2.out.lt; simp at di; obtain ⟨bb, oo, xx, hAC, hxx, hbl, hcx⟩ := con_cells HIN.out HI.out HB2.out; have hex := Option.some.inj (HXC.out.symm.trans hxx); subst hex; rw [hAC] at d0; have e0 := hcx 0 _ rfl; rw [Nat.add_zero] at e0; have e1 := hcx 1 _ rfl; have e2 := hcx 2 _ rfl; have e3 := hcx 3 _ rfl; have e4 := hcx 4 _ rfl; clear hcx hxx hAC hb2))
      | (go_at_call 19; ((with_reducible refine (level_val HLV.out HLE.out _).mono ?_); rintro e w' ⟨rfl, rfl⟩)))
    go_ret
    exact ⟨rfl, bthen HB2.out (by go_grown) HB2.out.size⟩
  · have HDU := Lib.hid hb
    have HKN := Lib.hid hk
    rw [rea_of hb hfb]
    have HF : Hid (fb = (decide (le = 0) && decide (level ≤ lv))) := Lib.hid (by rw [← hfb]; exact full_known hk HG.out HM.out HLV.out HLE.out)
    rw [HF.out]
    clear hb hk hfb HF
    by_cases hz : le = 0
    · subst hz
      by_cases hl : level ≤ lv
      · have hdl := decide_eq_true hl
        rw [hdl]
        go_enter Try.func33, Try.ntmps33
        go_wp2_with (first
        | (go_at_call 46; ((with_reducible refine (conts_val HDU.out (HIN.out.up HB0.out) HKI.out HKT.out HD.out).mono ?_); rintro e w1 ⟨rfl, hb1⟩; have HB1 := Lib.hid (bthen HB0.out hb1 HB0.out.size); have K1 := Lib.hid (HK.out.grow hb1); have KI1 := Lib.hid (HKB.out.grow hb1); obtain ⟨c0, c1, c2, c3, c4⟩ := tskCells K1.out; have ci := KI1.out.cell 0; have z1 := KI1.out.lt; simp at ci; clear hb1))
        | (go_at_call 34; ((with_reducible refine (cont_val HM.out HKN.out (HIN.out.up HB1.out) _ _ HI.out).mono ?_); rintro e w2 ⟨rfl, hb2⟩; have HB2 := Lib.hid (bthen HB1.out hb2 HB1.out.size); have K2 := Lib.hid (K1.out.grow hb2); have KI2 := Lib.hid (KI1.out.grow hb2); obtain ⟨d0, d1, d2, d3, d4⟩ := tskCells K2.out; have di := KI2.out.cell 0; have z2 := KI2.out.lt; have z2b := K2.out.lt; simp at di; obtain ⟨bb, oo, xx, hAC, hxx, hbl, hcx⟩ := con_cells HIN.out HI.out HB2.out; have hex := Option.some.inj (HXC.out.symm.trans hxx); subst hex; rw [hAC] at d0; have e0 := hcx 0 _ rfl; rw [Nat.add_zero] at e0; have e1 := hcx 1 _ rfl; have e2 := hcx 2 _ rfl; have e3 := hcx 3 _ rfl; have e4 := hcx 4 _ rfl; clear hcx hxx hAC hb2))
        | (go_at_call 19; ((with_reducible refine (level_val HLV.out HLE.out _).mono ?_); rintro e w' ⟨rfl, rfl⟩)))
        go_ret
        exact ⟨rfl, bthen HB2.out (by go_grown) HB2.out.size⟩
      · have hdl := decide_eq_false hl
        rw [hdl]
        go_enter Try.func33, Try.ntmps33
        go_wp2_with (first
        | (go_at_call 46; ((with_reducible refine (conts_val HDU.out (HIN.out.up HB0.out) HKI.out HKT.out HD.out).mono ?_); rintro e w1 ⟨rfl, hb1⟩; have HB1 := Lib.hid (bthen HB0.out hb1 HB0.out.size); have K1 := Lib.hid (HK.out.grow hb1); have KI1 := Lib.hid (HKB.out.grow hb1); obtain ⟨c0, c1, c2, c3, c4⟩ := tskCells K1.out; have ci := KI1.out.cell 0; have z1 := KI1.out.lt; simp at ci; clear hb1))
        | (go_at_call 34; ((with_reducible refine (cont_val HM.out HKN.out (HIN.out.up HB1.out) _ _ HI.out).mono ?_); rintro e w2 ⟨rfl, hb2⟩; have HB2 := Lib.hid (bthen HB1.out hb2 HB1.out.size); have K2 := Lib.hid (K1.out.grow hb2); have KI2 := Lib.hid (KI1.out.grow hb2); obtain ⟨d0, d1, d2, d3, d4⟩ := tskCells K2.out; have di := KI2.out.cell 0; have z2 := KI2.out.lt; have z2b := K2.out.lt; simp at di; obtain ⟨bb, oo, xx, hAC, hxx, hbl, hcx⟩ := con_cells HIN.out HI.out HB2.out; have hex := Option.some.inj (HXC.out.symm.trans hxx); subst hex; rw [hAC] at d0; have e0 := hcx 0 _ rfl; rw [Nat.add_zero] at e0; have e1 := hcx 1 _ rfl; have e2 := hcx 2 _ rfl; have e3 := hcx 3 _ rfl; have e4 := hcx 4 _ rfl; clear hcx hxx hAC hb2))
        | (go_at_call 19; ((with_reducible refine (level_val HLV.out HLE.out _).mono ?_); rintro e w' ⟨rfl, rfl⟩)))
        go_ret
        exact ⟨rfl, bthen HB2.out (by go_grown) HB2.out.size⟩
    · have hzq : (le == 0) = false := by simpa using hz
      rw [decide_eq_false hz, Bool.false_and]
      clear hz
      go_enter Try.func33, Try.ntmps33
      go_wp2_with (first
      | (go_at_call 46; ((with_reducible refine (conts_val HDU.out (HIN.out.up HB0.out) HKI.out HKT.out HD.out).mono ?_); rintro e w1 ⟨rfl, hb1⟩; have HB1 := Lib.hid (bthen HB0.out hb1 HB0.out.size); have K1 := Lib.hid (HK.out.grow hb1); have KI1 := Lib.hid (HKB.out.grow hb1); obtain ⟨c0, c1, c2, c3, c4⟩ := tskCells K1.out; have ci := KI1.out.cell 0; have z1 := KI1.out.lt; simp at ci; clear hb1))
      | (go_at_call 34; ((with_reducible refine (cont_val HM.out HKN.out (HIN.out.up HB1.out) _ _ HI.out).mono ?_); rintro e w2 ⟨rfl, hb2⟩; have HB2 := Lib.hid (bthen HB1.out hb2 HB1.out.size); have K2 := Lib.hid (K1.out.grow hb2); have KI2 := Lib.hid (KI1.out.grow hb2); obtain ⟨d0, d1, d2, d3, d4⟩ := tskCells K2.out; have di := KI2.out.cell 0; have z2 := KI2.out.lt; have z2b := K2.out.lt; simp at di; obtain ⟨bb, oo, xx, hAC, hxx, hbl, hcx⟩ := con_cells HIN.out HI.out HB2.out; have hex := Option.some.inj (HXC.out.symm.trans hxx); subst hex; rw [hAC] at d0; have e0 := hcx 0 _ rfl; rw [Nat.add_zero] at e0; have e1 := hcx 1 _ rfl; have e2 := hcx 2 _ rfl; have e3 := hcx 3 _ rfl; have e4 := hcx 4 _ rfl; clear hcx hxx hAC hb2))
      | (go_at_call 19; ((with_reducible refine (level_val HLV.out HLE.out _).mono ?_); rintro e w' ⟨rfl, rfl⟩)))
      go_ret
      exact ⟨rfl, bthen HB2.out (by go_grown) HB2.out.size⟩
  · have HDU := Lib.hid hb
    have HKN := Lib.hid hk
    rw [rea_of hb hfb]
    have HF : Hid (fb = false) := Lib.hid (by rw [← hfb]; exact full_not hk)
    rw [HF.out]
    clear hb hk hfb
    go_enter Try.func33, Try.ntmps33
    go_wp2_with (first
      | (go_at_call 46; ((with_reducible refine (conts_val HDU.out (HIN.out.up HB0.out) HKI.out HKT.out HD.out).mono ?_); rintro e w1 ⟨rfl, hb1⟩; have HB1 := Lib.hid (bthen HB0.out hb1 HB0.out.size); have K1 := Lib.hid (HK.out.grow hb1); have KI1 := Lib.hid (HKB.out.grow hb1); obtain ⟨c0, c1, c2, c3, c4⟩ := tskCells K1.out; have ci := KI1.out.cell 0; have z1 := KI1.out.lt; simp at ci; clear hb1))
      | (go_at_call 34; ((with_reducible refine (cont_val HM.out HKN.out (HIN.out.up HB1.out) _ _ HI.out).mono ?_); rintro e w2 ⟨rfl, hb2⟩; have HB2 := Lib.hid (bthen HB1.out hb2 HB1.out.size); have K2 := Lib.hid (K1.out.grow hb2); have KI2 := Lib.hid (KI1.out.grow hb2); obtain ⟨d0, d1, d2, d3, d4⟩ := tskCells K2.out; have di := KI2.out.cell 0; have z2 := KI2.out.lt; have z2b := K2.out.lt; simp at di; obtain ⟨bb, oo, xx, hAC, hxx, hbl, hcx⟩ := con_cells HIN.out HI.out HB2.out; have hex := Option.some.inj (HXC.out.symm.trans hxx); subst hex; rw [hAC] at d0; have e0 := hcx 0 _ rfl; rw [Nat.add_zero] at e0; have e1 := hcx 1 _ rfl; have e2 := hcx 2 _ rfl; have e3 := hcx 3 _ rfl; have e4 := hcx 4 _ rfl; clear hcx hxx hAC hb2))
      | (go_at_call 19; ((with_reducible refine (level_val HLV.out HLE.out _).mono ?_); rintro e w' ⟨rfl, rfl⟩)))
    go_ret
    exact ⟨rfl, bthen HB2.out (by go_grown) HB2.out.size⟩
  · have HDU := Lib.hid hb
    have HKN := Lib.hid hk
    rw [rea_of hb hfb]
    have HF : Hid (fb = (decide (le = 0) && decide (level ≤ lv))) := Lib.hid (by rw [← hfb]; exact full_known hk HG.out HM.out HLV.out HLE.out)
    rw [HF.out]
    clear hb hk hfb HF
    by_cases hz : le = 0
    · subst hz
      by_cases hl : level ≤ lv
      · have hdl := decide_eq_true hl
        rw [hdl]
        go_enter Try.func33, Try.ntmps33
        go_wp2_with (first
        | (go_at_call 46; ((with_reducible refine (conts_val HDU.out (HIN.out.up HB0.out) HKI.out HKT.out HD.out).mono ?_); rintro e w1 ⟨rfl, hb1⟩; have HB1 := Lib.hid (bthen HB0.out hb1 HB0.out.size); have K1 := Lib.hid (HK.out.grow hb1); have KI1 := Lib.hid (HKB.out.grow hb1); obtain ⟨c0, c1, c2, c3, c4⟩ := tskCells K1.out; have ci := KI1.out.cell 0; have z1 := KI1.out.lt; simp at ci; clear hb1))
        | (go_at_call 34; ((with_reducible refine (cont_val HM.out HKN.out (HIN.out.up HB1.out) _ _ HI.out).mono ?_); rintro e w2 ⟨rfl, hb2⟩; have HB2 := Lib.hid (bthen HB1.out hb2 HB1.out.size); have K2 := Lib.hid (K1.out.grow hb2); have KI2 := Lib.hid (KI1.out.grow hb2); obtain ⟨d0, d1, d2, d3, d4⟩ := tskCells K2.out; have di := KI2.out.cell 0; have z2 := KI2.out.lt; have z2b := K2.out.lt; simp at di; obtain ⟨bb, oo, xx, hAC, hxx, hbl, hcx⟩ := con_cells HIN.out HI.out HB2.out; have hex := Option.some.inj (HXC.out.symm.trans hxx); subst hex; rw [hAC] at d0; have e0 := hcx 0 _ rfl; rw [Nat.add_zero] at e0; have e1 := hcx 1 _ rfl; have e2 := hcx 2 _ rfl; have e3 := hcx 3 _ rfl; have e4 := hcx 4 _ rfl; clear hcx hxx hAC hb2))
        | (go_at_call 19; ((with_reducible refine (level_val HLV.out HLE.out _).mono ?_); rintro e w' ⟨rfl, rfl⟩)))
        go_ret
        exact ⟨rfl, bthen HB2.out (by go_grown) HB2.out.size⟩
      · have hdl := decide_eq_false hl
        rw [hdl]
        go_enter Try.func33, Try.ntmps33
        go_wp2_with (first
        | (go_at_call 46; ((with_reducible refine (conts_val HDU.out (HIN.out.up HB0.out) HKI.out HKT.out HD.out).mono ?_); rintro e w1 ⟨rfl, hb1⟩; have HB1 := Lib.hid (bthen HB0.out hb1 HB0.out.size); have K1 := Lib.hid (HK.out.grow hb1); have KI1 := Lib.hid (HKB.out.grow hb1); obtain ⟨c0, c1, c2, c3, c4⟩ := tskCells K1.out; have ci := KI1.out.cell 0; have z1 := KI1.out.lt; simp at ci; clear hb1))
        | (go_at_call 34; ((with_reducible refine (cont_val HM.out HKN.out (HIN.out.up HB1.out) _ _ HI.out).mono ?_); rintro e w2 ⟨rfl, hb2⟩; have HB2 := Lib.hid (bthen HB1.out hb2 HB1.out.size); have K2 := Lib.hid (K1.out.grow hb2); have KI2 := Lib.hid (KI1.out.grow hb2); obtain ⟨d0, d1, d2, d3, d4⟩ := tskCells K2.out; have di := KI2.out.cell 0; have z2 := KI2.out.lt; have z2b := K2.out.lt; simp at di; obtain ⟨bb, oo, xx, hAC, hxx, hbl, hcx⟩ := con_cells HIN.out HI.out HB2.out; have hex := Option.some.inj (HXC.out.symm.trans hxx); subst hex; rw [hAC] at d0; have e0 := hcx 0 _ rfl; rw [Nat.add_zero] at e0; have e1 := hcx 1 _ rfl; have e2 := hcx 2 _ rfl; have e3 := hcx 3 _ rfl; have e4 := hcx 4 _ rfl; clear hcx hxx hAC hb2))
        | (go_at_call 19; ((with_reducible refine (level_val HLV.out HLE.out _).mono ?_); rintro e w' ⟨rfl, rfl⟩)))
        go_ret
        exact ⟨rfl, bthen HB2.out (by go_grown) HB2.out.size⟩
    · have hzq : (le == 0) = false := by simpa using hz
      rw [decide_eq_false hz, Bool.false_and]
      clear hz
      go_enter Try.func33, Try.ntmps33
      go_wp2_with (first
      | (go_at_call 46; ((with_reducible refine (conts_val HDU.out (HIN.out.up HB0.out) HKI.out HKT.out HD.out).mono ?_); rintro e w1 ⟨rfl, hb1⟩; have HB1 := Lib.hid (bthen HB0.out hb1 HB0.out.size); have K1 := Lib.hid (HK.out.grow hb1); have KI1 := Lib.hid (HKB.out.grow hb1); obtain ⟨c0, c1, c2, c3, c4⟩ := tskCells K1.out; have ci := KI1.out.cell 0; have z1 := KI1.out.lt; simp at ci; clear hb1))
      | (go_at_call 34; ((with_reducible refine (cont_val HM.out HKN.out (HIN.out.up HB1.out) _ _ HI.out).mono ?_); rintro e w2 ⟨rfl, hb2⟩; have HB2 := Lib.hid (bthen HB1.out hb2 HB1.out.size); have K2 := Lib.hid (K1.out.grow hb2); have KI2 := Lib.hid (KI1.out.grow hb2); obtain ⟨d0, d1, d2, d3, d4⟩ := tskCells K2.out; have di := KI2.out.cell 0; have z2 := KI2.out.lt; have z2b := K2.out.lt; simp at di; obtain ⟨bb, oo, xx, hAC, hxx, hbl, hcx⟩ := con_cells HIN.out HI.out HB2.out; have hex := Option.some.inj (HXC.out.symm.trans hxx); subst hex; rw [hAC] at d0; have e0 := hcx 0 _ rfl; rw [Nat.add_zero] at e0; have e1 := hcx 1 _ rfl; have e2 := hcx 2 _ rfl; have e3 := hcx 3 _ rfl; have e4 := hcx 4 _ rfl; clear hcx hxx hAC hb2))
      | (go_at_call 19; ((with_reducible refine (level_val HLV.out HLE.out _).mono ?_); rintro e w' ⟨rfl, rfl⟩)))
      go_ret
      exact ⟨rfl, bthen HB2.out (by go_grown) HB2.out.size⟩
end Go.Proofs.Ytpeidgfaejnhiaa
