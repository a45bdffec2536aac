/- Contracts of the reference's Same and of the laws' listed, great, made, why. -/
import Derived.Test.YtpeidgfaejnhiaaDemR
namespace Go.Proofs.Ytpeidgfaejnhiaa
open Go.RowKit Go.Maps

/-- two slices that read as one list are the same -/
theorem same_any {w : World} {A B : Option Addr} {n n' c c' : Nat} {L : List Dem} (h : RdT w (· < w.heap.size) 7 Dem.cs A n L) (h' : RdT w (· < w.heap.size) 7 Dem.cs B n' L) (hn : n ≤ maxLen) :
    Calls Try.prog 13 #[.slice A n c, .slice B n' c'] w fun e w' => e = .returned (.bool true) ∧ Below w.heap.size w w' := by
  have hlen := h.1
  obtain rfl : n = n' := h.1.symm.trans h'.1
  unfold maxLen at hn
  have HL := Lib.hid hlen
  have HM := Lib.hid h
  have HM' := Lib.hid h'
  clear h h' hlen
  go_enter Try.func13, Try.ntmps13
  go_wp2
  go_loopw [5] (fun i wr => ∃ k : Nat, k ≤ n ∧ i = .int .i64 (k : Nat) ∧ Below w.heap.size w wr) (fun i _ => n - (intOf i).toNat)
  case atStart => exact ⟨0, Nat.zero_le _, rfl, Below.refl _ _⟩
  case round =>
    obtain ⟨k, hk, rfl, hbel⟩ := hrel
    have HB := Lib.hid hbel
    clear hbel
    by_cases hlt : k < n
    · obtain ⟨x, hx⟩ := at_lt (l := L) (k := k) (by rw [HL.out]; exact hlt)
      obtain ⟨b, o, rfl, hb, hc⟩ := HM.out.2 (by omega)
      obtain ⟨b2, o2, rfl, hb2, hc2⟩ := HM'.out.2 (by omega)
      have hcx := (HM.out.cells_ hlt hx HB.out).2
      have c0 := hcx 0 _ rfl
      rw [Nat.add_zero] at c0
      have c1 := hcx 1 _ rfl
      have c2 := hcx 2 _ rfl
      have c3 := hcx 3 _ rfl
      have c4 := hcx 4 _ rfl
      have c5 := hcx 5 _ rfl
      have c6 := hcx 6 _ rfl
      have hcy := (HM'.out.cells_ hlt hx HB.out).2
      have d0 := hcy 0 _ rfl
      rw [Nat.add_zero] at d0
      have d1 := hcy 1 _ rfl
      have d2 := hcy 2 _ rfl
      have d3 := hcy 3 _ rfl
      have d4 := hcy 4 _ rfl
      have d5 := hcy 5 _ rfl
      have d6 := hcy 6 _ rfl
      have x3 : (0 : Int) ≤ (k : Int) := by omega
      have x4 : (k : Int) < (n : Int) := by omega
      obtain ⟨con, node, kind, gr, fr, to_, serv⟩ := x
      simp only at c0 c1 c2 c3 c4 c5 c6 d0 d1 d2 d3 d4 d5 d6
      clear hcx hcy hc hc2 hx
      go_wp2_with fail
      go_quiet (fail)
      go_wp2
      go_roundw
      case rel => exact ⟨k + 1, by omega, by go_num, belowN HB.out _⟩
      case measure => simp [intOf]; omega
    · have e : k = n := by omega
      subst e
      go_wp2
      go_ret
      exact ⟨rfl, HB.out⟩

theorem listed_any {w : World} {A : Option Addr} {n c : Nat} {L : List Dem} (h : RdT w (· < w.heap.size) 7 Dem.cs A n L) (hn : n ≤ maxLen) (con : Int) :
    Calls Try.prog 20 #[.slice A n c, .int .i64 con] w fun e w' => e = .returned (.bool (L.any fun d => decide (d.con = con))) ∧ Below w.heap.size w w' := by
  have hlen := h.1
  unfold maxLen at hn
  have HL := Lib.hid hlen
  have HM := Lib.hid h
  obtain ⟨R, hR⟩ : ∃ R, (L.any fun d => decide (d.con = con)) = R := ⟨_, rfl⟩
  rw [hR]
  have HR := Lib.hid hR
  clear h hlen hR
  go_enter Try.func20, Try.ntmps20
  go_wp2
  go_loopw [5] (fun i wr => ∃ k : Nat, k ≤ n ∧ i = .int .i64 (k : Nat) ∧ (∀ y ∈ L.take k, decide (y.con = con) = false) ∧ Below w.heap.size w wr) (fun i _ => n - (intOf i).toNat)
  case atStart => exact ⟨0, Nat.zero_le _, rfl, by simp, Below.refl _ _⟩
  case round =>
    obtain ⟨k, hk, rfl, hE, hbel⟩ := hrel
    have HE := Lib.hid hE
    have HB := Lib.hid hbel
    clear hE hbel
    by_cases hlt : k < n
    · obtain ⟨x, hx⟩ := at_lt (l := L) (k := k) (by rw [HL.out]; exact hlt)
      obtain ⟨b, o, rfl, hb, hc⟩ := HM.out.2 (by omega)
      have hcx := (HM.out.cells_ hlt hx HB.out).2
      have c0 := hcx 0 _ rfl
      rw [Nat.add_zero] at c0
      clear hcx hc
      have HX := Lib.hid hx
      clear hx
      obtain ⟨con2, node, kind, gr, fr, to_, serv⟩ := x
      simp only at c0
      by_cases e1 : con2 = con
      · subst e1
        have HT : Hid (R = true) := Lib.hid (by rw [← HR.out]; exact List.any_eq_true.2 ⟨_, List.mem_of_getElem? HX.out, by simp⟩)
        go_wp2
        go_ret
        exact ⟨ret_bool HT.out.symm, HB.out⟩
      · have f1 : (con2 == con) = false := by simpa using e1
        have E1 := Lib.hid e1
        clear e1
        go_wp2
        go_roundw
        case rel => exact ⟨k + 1, by omega, by go_num, take_all HE.out HX.out (by simp [E1.out]), HB.out⟩
        case measure => simp [intOf]; omega
    · have e : k = n := by omega
      subst e
      have HF : Hid (R = false) := Lib.hid (by
        rw [← HR.out, List.any_eq_false]
        intro y hy
        have := HE.out y (by rw [List.take_of_length_le (by rw [HL.out]; exact Nat.le_refl _)]; exact hy)
        simpa using this)
      go_wp2
      go_ret
      exact ⟨ret_bool HF.out.symm, HB.out⟩

/-- some bool is returned; nothing that was there has changed -/
def SomeB (w : World) (e : Ending) (w' : World) : Prop := ∃ b : Bool, e = .returned (.bool b) ∧ Below w.heap.size w w'
def CasCells (W : World) (g : Nat) (T : Tri) (day level f t v : Int) : Prop := W.cell? ⟨g, 0, none⟩ = some (.slice T.AC T.nC T.cC) ∧ W.cell? ⟨g, 1, none⟩ = some (.slice T.AS T.nS T.cS) ∧ W.cell? ⟨g, 2, none⟩ = some (.slice T.AF T.nF T.cF) ∧ W.cell? ⟨g, 3, none⟩ = some (.int .i64 day) ∧ W.cell? ⟨g, 4, none⟩ = some (.int .i64 level) ∧ W.cell? ⟨g, 5, none⟩ = some (.int .i64 f) ∧ W.cell? ⟨g, 6, none⟩ = some (.int .i64 t) ∧ W.cell? ⟨g, 7, none⟩ = some (.int .i64 v)
theorem casCells {W : World} {g : Nat} {T : Tri} {day level f t v : Int} (h : Blk W g 28 (T.xs day level f t v)) : CasCells W g T day level f t v := ⟨h.cell 0, h.cell 1, h.cell 2, h.cell 3, h.cell 4, h.cell 5, h.cell 6, h.cell 7⟩

set_option maxRecDepth 100000 in
set_option maxHeartbeats 1600000 in
theorem great_any {w : World} {T : Tri} (h : T.In w) (day level f t v : Int) :
    Calls Try.prog 9 #[.agg (T.xs day level f t v)] w (SomeB w) := by
  have K0 : Hid (Blk (w.alloc (.cells (T.xs day level f t v) 28)) w.heap.size 28 (T.xs day level f t v)) := Lib.hid (Blk.new _ _ _)
  have HIN := Lib.hid h
  obtain ⟨AC, nC, cC, C, AS, nS, cS, S, AF, nF, cF, F⟩ := T
  have hcn : nC ≤ maxLen := h.cn
  have hsn : nS ≤ maxLen := h.sn
  have hfn : nF ≤ maxLen := h.fn
  have HCL : Hid (C.length = nC) := Lib.hid h.c.1
  have HSL : Hid (S.length = nS) := Lib.hid h.s.1
  have HC : Hid (RdT w (· < w.heap.size) 5 Con.cs AC nC C) := Lib.hid h.c
  have HS : Hid (RdT w (· < w.heap.size) 4 Sch.cs AS nS S) := Lib.hid h.s
  have HCO : Hid (∀ x ∈ C, x.id.size ≤ maxLen) := Lib.hid h.csz
  have HSO : Hid (∀ x ∈ S, x.n ≤ maxLen) := Lib.hid fun x hx => (h.sok x hx).2.1
  unfold maxLen at hcn hsn hfn
  clear h HIN
  by_cases hg : 40 < nC ∨ 40 < nS ∨ 40 < nF
  · go_enter Try.func9, Try.ntmps9
    go_wp2
    all_goals first | (exfalso; omega) | (go_ret; exact ⟨_, rfl, by go_grown⟩)
  have g1 : nC ≤ 40 := by omega
  have g2 : nS ≤ 40 := by omega
  have g3 : nF ≤ 40 := by omega
  clear hg
  go_enter Try.func9, Try.ntmps9
  go_wp2
  all_goals first | (exfalso; omega) | skip
  obtain ⟨w0, hw0, hb0⟩ : ∃ w0, w.alloc (.cells #[.slice AC nC cC, .slice AS nS cS, .slice AF nF cF, .int .i64 day, .int .i64 level, .int .i64 f, .int .i64 t, .int .i64 v] 28) = w0 ∧ Below w.heap.size w w0 := ⟨_, rfl, by go_grown⟩
  have hs0 : w0.heap.size = w.heap.size + 1 := by rw [← hw0]; simp
  rw [hw0] at K0 ⊢
  have HB0 := Lib.hid hb0
  clear hw0 hb0
  go_loopw [3] (fun i wr => ∃ k : Nat, k ≤ nC ∧ i = .int .i64 (k : Nat) ∧ Below w0.heap.size w0 wr) (fun i _ => nC - (intOf i).toNat)
  case atStart => exact ⟨0, Nat.zero_le _, rfl, Below.refl _ _⟩
  case round =>
    obtain ⟨k, hk, rfl, hbel⟩ := hrel
    have HB := Lib.hid hbel
    have HBW := Lib.hid (bthen HB0.out hbel (by omega))
    obtain ⟨q0, q1, q2, q3, q4, q5, q6, q7⟩ := casCells (K0.out.grow hbel)
    have hzr := (K0.out.grow hbel).lt
    simp only at q0 q1 q2
    clear hbel
    by_cases hlt : k < nC
    · obtain ⟨x, hx⟩ := at_lt (l := C) (k := k) (by rw [HCL.out]; exact hlt)
      obtain ⟨b, o, rfl, hb, hc⟩ := HC.out.2 (by omega)
      have hcx := (HC.out.cells_ hlt hx HBW.out).2
      have c0 := hcx 0 _ rfl
      rw [Nat.add_zero] at c0
      have hsz := HCO.out x (List.mem_of_getElem? hx)
      unfold maxLen at hsz
      clear hcx hc hx
      by_cases h100 : 100 < x.id.size
      · go_wp2
        go_ret
        exact ⟨_, rfl, HBW.out⟩
      · go_wp2
        go_roundw
        case rel => exact ⟨k + 1, by omega, by go_num, HB.out⟩
        case measure => simp [intOf]; omega
    · have e : k = nC := by omega
      subst e
      obtain ⟨wo, rfl⟩ : ∃ wo : World, wo = wr := ⟨_, rfl⟩
      go_wp2
      clear q0 q1 q2 q3 q4 q5 q6 q7 hzr
      go_loopw [4] (fun i wx => ∃ j : Nat, j ≤ nS ∧ i = .int .i64 (j : Nat) ∧ Below w0.heap.size w0 wx) (fun i _ => nS - (intOf i).toNat)
      case atStart => exact ⟨0, Nat.zero_le _, rfl, HB.out⟩
      case round =>
        obtain ⟨j, hj, rfl, hbel⟩ := hrel
        have HBX := Lib.hid hbel
        have HBXW := Lib.hid (bthen HB0.out hbel (by omega))
        obtain ⟨q0, q1, q2, q3, q4, q5, q6, q7⟩ := casCells (K0.out.grow hbel)
        have hzr := (K0.out.grow hbel).lt
        simp only at q0 q1 q2
        clear hbel
        by_cases hlt2 : j < nS
        · obtain ⟨x, hx⟩ := at_lt (l := S) (k := j) (by rw [HSL.out]; exact hlt2)
          obtain ⟨b, o, rfl, hb, hc⟩ := HS.out.2 (by omega)
          have hcx := (HS.out.cells_ hlt2 hx HBXW.out).2
          have c3 := hcx 3 _ rfl
          have hsz := HSO.out x (List.mem_of_getElem? hx)
          unfold maxLen at hsz
          clear hcx hc hx
          by_cases h40 : 40 < x.n
          · go_wp2
            go_ret
            exact ⟨_, rfl, HBXW.out⟩
          · go_wp2
            go_roundw
            case rel => exact ⟨j + 1, by omega, by go_num, HBX.out⟩
            case measure => simp [intOf]; omega
        · have e : j = nS := by omega
          subst e
          go_wp2
          go_ret
          exact ⟨_, rfl, HBXW.out⟩

set_option maxHeartbeats 800000 in
theorem made_any {w : World} {T : Tri} (h : T.In w) (day level f t v : Int) (hd : i64ok day) :
    Calls Try.prog 11 #[.agg (T.xs day level f t v)] w (MakPost w (makL T.C T.S T.F day level f t v) (makE T.C T.S T.F day level f t v)) := by
  have HB0 : Hid (Below w.heap.size w (w.alloc (.cells (T.xs day level f t v) 28))) := Lib.hid ((Below.refl _ w).alloc (Nat.le_refl _) _)
  have HIN := Lib.hid h
  have HD := Lib.hid hd
  clear h hd
  obtain ⟨L, hL⟩ : ∃ L, makL T.C T.S T.F day level f t v = L := ⟨_, rfl⟩
  obtain ⟨E, hE⟩ : ∃ E, makE T.C T.S T.F day level f t v = E := ⟨_, rfl⟩
  have HL := Lib.hid hL
  have HE := Lib.hid hE
  rw [hL, hE]
  clear hL hE
  go_enter Try.func11, Try.ntmps11
  go_wp2_with fail
  refine (make_any (HIN.out.up HB0.out) day level f t v HD.out).mono ?_
  rw [HL.out, HE.out]
  rintro e w1 ⟨A, c, rfl, hcap, hr, hb1⟩
  have HCAP := Lib.hid hcap
  have HR := Lib.hid hr
  have HB1 := Lib.hid (bthen HB0.out hb1 HB0.out.size)
  clear hr hb1 hcap
  go_wp2
  go_ret2
  exact ⟨A, c, rfl, HCAP.out, HR.out, HB1.out⟩

set_option maxHeartbeats 800000 in
theorem lwhy_any {w : World} {T : Tri} (h : T.In w) (day level f t v i : Int) (hd : i64ok day) :
    Calls Try.prog 14 #[.agg (T.xs day level f t v), .int .i64 i] w fun e w' => e = .returned (.tuple #[.int .i64 (whyV T.C T.S T.F day level i), .int .i64 (whyE T.C T.S T.F day level i)]) ∧ Below w.heap.size w w' := by
  have HB0 : Hid (Below w.heap.size w (w.alloc (.cells (T.xs day level f t v) 28))) := Lib.hid ((Below.refl _ w).alloc (Nat.le_refl _) _)
  have HIN := Lib.hid h
  have HD := Lib.hid hd
  clear h hd
  obtain ⟨L, hL⟩ : ∃ L, whyV T.C T.S T.F day level i = L := ⟨_, rfl⟩
  obtain ⟨E, hE⟩ : ∃ E, whyE T.C T.S T.F day level i = E := ⟨_, rfl⟩
  have HL := Lib.hid hL
  have HE := Lib.hid hE
  rw [hL, hE]
  clear hL hE
  go_enter Try.func14, Try.ntmps14
  go_wp2_with fail
  refine (why_any (HIN.out.up HB0.out) day level i HD.out).mono ?_
  rw [HL.out, HE.out]
  rintro e w1 ⟨rfl, hb1⟩
  have HB1 := Lib.hid (bthen HB0.out hb1 HB0.out.size)
  clear hb1
  go_wp2
  go_ret2
  exact ⟨rfl, HB1.out⟩
end Go.Proofs.Ytpeidgfaejnhiaa
