/- DemandReasons: a container has a demand exactly if a reason holds: it is due by a schedule, or its fill can have reached the level; Why says so; the fixed examples hold. No condition. -/
import Derived.Test.YtpeidgfaejnhiaaAwake21
import Derived.Test.YtpeidgfaejnhiaaDemL
namespace Go.Proofs.Ytpeidgfaejnhiaa.demandReasons
open Go.ChangeShapes Go.WideShapes Go.ChangeAt Go.RowKit
set_option linter.unusedVariables false

theorem isdue_val {b : Bool} {w : World} {con st ev : Int} {A : Option Addr} {n c : Nat} {mv : List (Int × Int)} {d : Int} (hb : isDue ⟨con, st, ev, A, n, c, mv⟩ d = b) (h : SchIn w ⟨con, st, ev, A, n, c, mv⟩) (hd : i64ok d) :
    Calls Try.prog 18 #[.agg #[.int .i64 con, .int .i64 st, .int .i64 ev, .slice A n c], .int .i64 d] w fun e w' => e = .returned (.bool b) ∧ Below w.heap.size w w' := by rw [← hb]; exact isdue_any _ h d hd
theorem lwhy_val {y : Int} {w : World} {T : Tri} {i : Nat} {day level f t v : Int} (h : T.In w) (h0 : tskE T.C T.S T.F day level = 0) (hi : i < T.nC) (hy : reaV T.C T.S T.F day level (i : Int) = y) (hd : i64ok day) :
    Calls Try.prog 14 #[.agg (T.xs day level f t v), .int .i64 (i : Int)] w fun e w' => e = .returned (.tuple #[.int .i64 y, .int .i64 0]) ∧ Below w.heap.size w w' := by
  have h1 := why_in (i := (i : Int)) h0 (by rw [h.c.1]; omega)
  rw [← hy, ← h1.2]
  have := lwhy_any h day level f t v (i : Int) hd
  rwa [h1.1] at this
def dueK (S : List Sch) (i day : Int) (k : Nat) : Bool := (S.take k).any fun s => decide (s.con = i) && isDue s day
theorem dueK_step {S : List Sch} {i day : Int} {k : Nat} {x : Sch} (hx : S[k]? = some x) : dueK S i day (k + 1) = (dueK S i day k || (decide (x.con = i) && isDue x day)) := any_take hx
theorem dueK_all {S : List Sch} {i day : Int} {n : Nat} (h : S.length = n) : dueK S i day n = dueA S i day := by unfold dueK dueA; rw [List.take_of_length_le (by omega)]

set_option maxRecDepth 100000 in
set_option maxHeartbeats 6400000 in
theorem walk (w : World) (v0 : Value) (hv0 : IsCase w v0) :
    Calls Try.prog 6 #[v0] w fun e w' => e = .returned (.bool true) ∧ Below w.heap.size w w' := by
  obtain ⟨T, day, level, f, t, v, rfl, hIn, hd, _, _, _, _⟩ := hv0
  obtain ⟨AC, nC, cC, C, AS, nS, cS, S, AF, nF, cF, F⟩ := T
  have K0 : Hid (Blk (w.alloc (.cells (Tri.xs ⟨AC, nC, cC, C, AS, nS, cS, S, AF, nF, cF, F⟩ day level f t v) 28)) w.heap.size 28 (Tri.xs ⟨AC, nC, cC, C, AS, nS, cS, S, AF, nF, cF, F⟩ day level f t v)) := Lib.hid (Blk.new _ _ _)
  have HB0 : Hid (Below w.heap.size w (w.alloc (.cells (Tri.xs ⟨AC, nC, cC, C, AS, nS, cS, S, AF, nF, cF, F⟩ day level f t v) 28))) := Lib.hid ((Below.refl _ w).alloc (Nat.le_refl _) _)
  have hcn : nC ≤ maxLen := hIn.cn
  have hsn : nS ≤ maxLen := hIn.sn
  have hfn : nF ≤ maxLen := hIn.fn
  have HCL : Hid (C.length = nC) := Lib.hid hIn.c.1
  have HSL : Hid (S.length = nS) := Lib.hid hIn.s.1
  have HFL : Hid (F.length = nF) := Lib.hid hIn.f.1
  have HIN := Lib.hid hIn
  have HD := Lib.hid hd
  have HSI : Hid (RdT w (· < w.heap.size) 4 Sch.cs AS nS S) := Lib.hid hIn.s
  have HSO : Hid (∀ x ∈ S, SchIn w x) := Lib.hid hIn.sok
  unfold maxLen at hcn hsn hfn
  clear hIn hd
  go_enter Try.func6, Try.ntmps6
  go_wp2_with fail
  refine (great_any (HIN.out.up HB0.out) day level f t v).mono ?_
  rintro e w1 ⟨b, rfl, hb1⟩
  have HB1 := Lib.hid (bthen HB0.out hb1 HB0.out.size)
  have K1 := Lib.hid (K0.out.grow hb1)
  obtain ⟨q0, q1, q2, q3, q4, q5, q6, q7⟩ := casCells K1.out
  have z1 := K1.out.lt
  simp only at q0 q1 q2
  clear hb1
  cases b
  · go_wp2_with fail
    refine (made_any (HIN.out.up HB1.out) day level f t v HD.out).mono ?_
    simp only
    obtain ⟨L, hL⟩ : ∃ L, makL C S F day level f t v = L := ⟨_, rfl⟩
    obtain ⟨E, hE⟩ : ∃ E, makE C S F day level f t v = E := ⟨_, rfl⟩
    have HL := Lib.hid hL
    have HE := Lib.hid hE
    rw [hL, hE]
    clear hL hE
    rintro e w2 ⟨A, c, rfl, hcap, hr, hb2⟩
    have HR := Lib.hid hr
    have HB2 := Lib.hid (bthen HB1.out hb2 HB1.out.size)
    have K2 := Lib.hid (K1.out.grow hb2)
    clear q0 q1 q2 q3 q4 q5 q6 q7 hcap hr hb2
    by_cases h0 : E = 0
    · subst h0
      obtain ⟨g0, _, h3, h4⟩ := mak_zero HE.out
      have hLA : L = allD C S F day level f t v := HL.out.symm.trans h4
      have HLA := Lib.hid hLA
      have HT := Lib.hid g0
      have hl32 : L.length ≤ 32 := by rw [hLA]; exact h3
      clear h3 h4 hLA g0
      go_wp2
      go_loopw [5, 6] (fun a b wr => ∃ i : Nat, i ≤ nC ∧ b = .int .i64 (i : Nat) ∧ a = .int .i64 ((dk C S F day level f t v i).length : Nat) ∧ Below w2.heap.size w2 wr) (fun _ b _ => nC - (intOf b).toNat)
      case atStart => exact ⟨0, Nat.zero_le _, rfl, rfl, Below.refl _ _⟩
      case round =>
        obtain ⟨i, hi, rfl, rfl, hbel⟩ := hrel
        have HB := Lib.hid hbel
        have hdk := dk_len C S F day level f t v i
        obtain ⟨nn, hnn⟩ : ∃ nn, (dk C S F day level f t v i).length = nn := ⟨_, rfl⟩
        rw [hnn] at hdk ⊢
        have HNN := Lib.hid hnn
        obtain ⟨q0, q1, q2, q3, q4, q5, q6, q7⟩ := casCells (K2.out.grow hbel)
        have hzr := (K2.out.grow hbel).lt
        simp only at q0 q1 q2
        clear hbel hnn
        by_cases hlt : i < nC
        · obtain ⟨bC, oC, x, hAC, hx, hbC, hcx⟩ := con_cells HIN.out hlt (bthen HB2.out HB.out HB2.out.size)
          simp only at hAC hx
          subst hAC
          have HX := Lib.hid hx
          have HI := Lib.hid hlt
          have i1 : (0 : Int) ≤ (i : Int) := by omega
          have i2 : (i : Int) < (nC : Int) := by omega
          have HCX : Hid (∀ W, Below w2.heap.size w2 W → (bC < W.heap.size ∧ W.cell? ⟨bC, oC + i * 5, none⟩ = some (.string x.id) ∧ W.cell? ⟨bC, oC + i * 5 + 1, none⟩ = some (.int .i64 x.kind) ∧ W.cell? ⟨bC, oC + i * 5 + 2, none⟩ = some (.int .i64 x.lit) ∧ W.cell? ⟨bC, oC + i * 5 + 3, none⟩ = some (.int .i64 x.gr) ∧ W.cell? ⟨bC, oC + i * 5 + 4, none⟩ = some (.int .i64 x.node))) := Lib.hid (fun W hW => by
            obtain ⟨b', o', x', hAC', hx', hb', hcx'⟩ := con_cells HIN.out HI.out (bthen HB2.out hW HB2.out.size)
            simp only at hAC' hx'
            injection hAC' with e1
            injection e1 with e3 e4
            subst e3; subst e4
            obtain rfl : x = x' := Option.some.inj (HX.out.symm.trans hx')
            exact ⟨hb', by have := hcx' 0 _ rfl; rwa [Nat.add_zero] at this, hcx' 1 _ rfl, hcx' 2 _ rfl, hcx' 3 _ rfl, hcx' 4 _ rfl⟩)
          clear hcx hx
          obtain ⟨id, kind, lit, gr, node⟩ := x
          simp only at HCX
          obtain ⟨wo, rfl⟩ : ∃ wo : World, wo = wr := ⟨_, rfl⟩
          go_wp2
          clear q0 q1 q2 q3 q4 q5 q6 q7
          go_loopw [7, 9] (fun a b wx => ∃ (k : Nat) (du : Bool), k ≤ nS ∧ b = .int .i64 (k : Nat) ∧ a = .bool du ∧ dueK S i day k = du ∧ Below w2.heap.size w2 wx) (fun _ b _ => nS - (intOf b).toNat)
          case atStart => exact ⟨0, false, Nat.zero_le _, rfl, rfl, rfl, HB.out⟩
          case round =>
            obtain ⟨k, du, hk, rfl, rfl, hdu, hbx⟩ := hrel
            have HDU := Lib.hid hdu
            have HBX := Lib.hid hbx
            have hzx := (K2.out.grow hbx).lt
            obtain ⟨q0, q1, q2, q3, q4, q5, q6, q7⟩ := casCells (K2.out.grow hbx)
            simp only at q0 q1 q2
            clear hdu hbx
            by_cases hltS : k < nS
            · obtain ⟨s, hs⟩ := at_lt (l := S) (k := k) (by rw [HSL.out]; exact hltS)
              obtain ⟨bS, oS, rfl, hbS, _⟩ := HSI.out.2 (by omega)
              have hcs := (HSI.out.cells_ hltS hs (bthen HB2.out HBX.out HB2.out.size)).2
              have c0 := hcs 0 _ rfl
              rw [Nat.add_zero] at c0
              have c1 := hcs 1 _ rfl
              have c2 := hcs 2 _ rfl
              have c3 := hcs 3 _ rfl
              have hbr : bS < wr.heap.size := Nat.lt_of_lt_of_le hbS (bthen HB2.out HBX.out HB2.out.size).size
              have HSX := Lib.hid ((HSO.out s (List.mem_of_getElem? hs)).up (bthen HB2.out HBX.out HB2.out.size))
              have HST := Lib.hid (dueK_step (i := (i : Int)) (day := day) hs)
              obtain ⟨con, st, ev, mA, mn, mc, mv⟩ := s
              simp only at c0 c1 c2 c3
              have k1 : (0 : Int) ≤ (k : Int) := by omega
              have k2 : (k : Int) < (nS : Int) := by omega
              clear hcs hs
              cases du
              · by_cases hq : con = (i : Int)
                · subst hq
                  have HS : Hid (∀ W, Below wr.heap.size wr W → (W.cell? ⟨w.heap.size, 1, none⟩ = some (.slice (some ⟨bS, oS, none⟩) nS cS) ∧ W.cell? ⟨w.heap.size, 3, none⟩ = some (.int .i64 day) ∧ W.cell? ⟨bS, oS + k * 4, none⟩ = some (.int .i64 (i : Int)) ∧ W.cell? ⟨bS, oS + k * 4 + 1, none⟩ = some (.int .i64 st) ∧ W.cell? ⟨bS, oS + k * 4 + 2, none⟩ = some (.int .i64 ev) ∧ W.cell? ⟨bS, oS + k * 4 + 3, none⟩ = some (.slice mA mn mc))) := Lib.hid (fun W hW => ⟨(hW.cell hzx).trans q1, (hW.cell hzx).trans q3, (hW.cell hbr).trans c0, (hW.cell hbr).trans c1, (hW.cell hbr).trans c2, (hW.cell hbr).trans c3⟩)
                  have HRF := Lib.hid (Below.refl wr.heap.size wr)
                  have HBN := Lib.hid (HRF.out.drew)
                  have HSY := Lib.hid (HSX.out.up HBN.out)
                  cases hu : isDue ⟨(i : Int), st, ev, mA, mn, mc, mv⟩ day
                  all_goals
                    have HU := Lib.hid hu
                    have hnx : dueK S i day (k + 1) = isDue ⟨(i : Int), st, ev, mA, mn, mc, mv⟩ day := by rw [HST.out, HDU.out]; simp
                    rw [hu] at hnx
                    have HNX := Lib.hid hnx
                    clear hnx
                    clear hu
                    go_wp2_with fail
                    go_region_held3 (fun W => W.cell? ⟨w.heap.size, 1, none⟩ = some (.slice (some ⟨bS, oS, none⟩) nS cS) ∧ W.cell? ⟨w.heap.size, 3, none⟩ = some (.int .i64 day) ∧ W.cell? ⟨bS, oS + k * 4, none⟩ = some (.int .i64 (i : Int)) ∧ W.cell? ⟨bS, oS + k * 4 + 1, none⟩ = some (.int .i64 st) ∧ W.cell? ⟨bS, oS + k * 4 + 2, none⟩ = some (.int .i64 ev) ∧ W.cell? ⟨bS, oS + k * 4 + 3, none⟩ = some (.slice mA mn mc))
                      (first | with_reducible exact HS.out _ HBN.out | with_reducible exact HS.out _ HRF.out)
                      (first
                        | (go_at_call 18; ((with_reducible refine (isdue_val HU.out HSY.out HD.out).mono ?_); rintro e wN ⟨rfl, hbN⟩; have HBN := Lib.hid (bthen HBN.out hbN HBN.out.size); clear hbN)))
                    go_wp2
                    go_roundw
                    case rel => exact ⟨k + 1, _, by omega, by go_num, rfl, HNX.out, bthen HBX.out HBN.out HBX.out.size⟩
                    case measure => simp [intOf]; omega
                · have hqq : (con == (i : Int)) = false := by simpa using hq
                  have HNX : Hid (dueK S i day (k + 1) = false) := Lib.hid (by rw [HST.out, HDU.out]; simp [hq])
                  clear hq
                  go_wp2_with fail
                  go_quiet (fail)
                  go_wp2
                  go_roundw
                  case rel => exact ⟨k + 1, false, by omega, by go_num, rfl, HNX.out, belowN HBX.out _⟩
                  case measure => simp [intOf]; omega
              · have HNX : Hid (dueK S i day (k + 1) = true) := Lib.hid (by rw [HST.out, HDU.out]; simp)
                go_wp2_with fail
                go_quiet (fail)
                go_wp2
                go_roundw
                case rel => exact ⟨k + 1, true, by omega, by go_num, rfl, HNX.out, belowN HBX.out _⟩
                case measure => simp [intOf]; omega
            · have e : k = nS := by omega
              subst e
              have HDA : Hid (dueA S i day = du) := Lib.hid (by rw [← HDU.out]; exact (dueK_all HSL.out).symm)
              obtain ⟨w4, rfl⟩ : ∃ w4 : World, w4 = wr := ⟨_, rfl⟩
              go_wp2
              clear q0 q1 q2 q3 q4 q5 q6 q7
              have HRW : Hid (reaV C S F day level (i : Int) = (if du then 1 else 0) + if fullB C F level i then 2 else 0) := Lib.hid (rea_of HDA.out rfl)
              go_loopw [8, 10] (fun a b wx => ∃ (k : Nat) (fu : Bool), k ≤ nF ∧ b = .int .i64 (k : Nat) ∧ a = .bool fu ∧ fulN C F level i gr k = fu ∧ Below w2.heap.size w2 wx) (fun _ b _ => nF - (intOf b).toNat)
              case atStart => exact ⟨0, false, Nat.zero_le _, rfl, rfl, rfl, HBX.out⟩
              case round =>
                obtain ⟨j, fu, hj, rfl, rfl, hfu, hby⟩ := hrel
                have HFU := Lib.hid hfu
                have HBY := Lib.hid hby
                have hzy := (K2.out.grow hby).lt
                obtain ⟨q0, q1, q2, q3, q4, q5, q6, q7⟩ := casCells (K2.out.grow hby)
                simp only at q0 q1 q2
                clear hfu hby
                by_cases hltF : j < nF
                · obtain ⟨y, hy⟩ := at_lt (l := F) (k := j) (by rw [HFL.out]; exact hltF)
                  obtain ⟨bF, oF, hAF, _, hbF, hcy⟩ := fil_cells HIN.out hy (bthen HB2.out HBY.out HB2.out.size)
                  simp only at hAF
                  subst hAF
                  have HFS := Lib.hid (fulN_step (C := C) (level := level) (i := (i : Int)) (g := gr) hy)
                  obtain ⟨con, lo, hi⟩ := y
                  have c0 := hcy 0 _ rfl
                  rw [Nat.add_zero] at c0
                  have c2 := hcy 2 _ rfl
                  simp only at c0 c2 HFS
                  obtain ⟨hbC', d0, d1, d2, d3, d4⟩ := HCX.out wr HBY.out
                  have j1 : (0 : Int) ≤ (j : Int) := by omega
                  have j2 : (j : Int) < (nF : Int) := by omega
                  obtain ⟨lv, hlv⟩ : ∃ lv, levV gr hi = lv := ⟨_, rfl⟩
                  obtain ⟨le, hle⟩ : ∃ le, levE gr hi = le := ⟨_, rfl⟩
                  rw [hlv, hle] at HFS
                  have HLV := Lib.hid hlv
                  have HLE := Lib.hid hle
                  have HS : Hid (∀ W, Below wr.heap.size wr W → (W.cell? ⟨w.heap.size, 0, none⟩ = some (.slice (some ⟨bC, oC, none⟩) nC cC) ∧ W.cell? ⟨w.heap.size, 2, none⟩ = some (.slice (some ⟨bF, oF, none⟩) nF cF) ∧ W.cell? ⟨w.heap.size, 4, none⟩ = some (.int .i64 level) ∧ W.cell? ⟨bF, oF + j * 3, none⟩ = some (.int .i64 con) ∧ W.cell? ⟨bF, oF + j * 3 + 2, none⟩ = some (.int .i64 hi) ∧ W.cell? ⟨bC, oC + i * 5, none⟩ = some (.string id) ∧ W.cell? ⟨bC, oC + i * 5 + 1, none⟩ = some (.int .i64 kind) ∧ W.cell? ⟨bC, oC + i * 5 + 2, none⟩ = some (.int .i64 lit) ∧ W.cell? ⟨bC, oC + i * 5 + 3, none⟩ = some (.int .i64 gr) ∧ W.cell? ⟨bC, oC + i * 5 + 4, none⟩ = some (.int .i64 node))) := Lib.hid (fun W hW => ⟨(hW.cell hzy).trans q0, (hW.cell hzy).trans q2, (hW.cell hzy).trans q4, (hW.cell hbF).trans c0, (hW.cell hbF).trans c2, (hW.cell hbC').trans d0, (hW.cell hbC').trans d1, (hW.cell hbC').trans d2, (hW.cell hbC').trans d3, (hW.cell hbC').trans d4⟩)
                  have HRF := Lib.hid (Below.refl wr.heap.size wr)
                  have HBN := Lib.hid (HRF.out.drew)
                  have HBM : Hid (Below wr.heap.size wr (wr.alloc (.cells #[.string id, .int .i64 kind, .int .i64 lit, .int .i64 gr, .int .i64 node] 49)).drew) := Lib.hid ((HRF.out.alloc (Nat.le_refl _) _).drew)
                  clear hcy hy hlv hle
                  go_wp2_with fail
                  go_region_held3 (fun W => W.cell? ⟨w.heap.size, 0, none⟩ = some (.slice (some ⟨bC, oC, none⟩) nC cC) ∧ W.cell? ⟨w.heap.size, 2, none⟩ = some (.slice (some ⟨bF, oF, none⟩) nF cF) ∧ W.cell? ⟨w.heap.size, 4, none⟩ = some (.int .i64 level) ∧ W.cell? ⟨bF, oF + j * 3, none⟩ = some (.int .i64 con) ∧ W.cell? ⟨bF, oF + j * 3 + 2, none⟩ = some (.int .i64 hi) ∧ W.cell? ⟨bC, oC + i * 5, none⟩ = some (.string id) ∧ W.cell? ⟨bC, oC + i * 5 + 1, none⟩ = some (.int .i64 kind) ∧ W.cell? ⟨bC, oC + i * 5 + 2, none⟩ = some (.int .i64 lit) ∧ W.cell? ⟨bC, oC + i * 5 + 3, none⟩ = some (.int .i64 gr) ∧ W.cell? ⟨bC, oC + i * 5 + 4, none⟩ = some (.int .i64 node))
                    (first | with_reducible exact HS.out _ HBN.out | with_reducible exact HS.out _ HRF.out | with_reducible exact HS.out _ HBM.out)
                    (first
                      | (go_at_call 19; ((with_reducible refine (level_val HLV.out HLE.out _).mono ?_); rintro e w' ⟨rfl, rfl⟩)))
                  cases fu
                  · by_cases hq : con = (i : Int)
                    · subst hq
                      by_cases hz : le = 0
                      · subst hz
                        by_cases hl : level ≤ lv
                        · have HNX : Hid (fulN C F level i gr (j + 1) = true) := Lib.hid (by rw [HFS.out, HFU.out]; simp [hl])
                          go_wp2
                          go_roundw
                          case rel => exact ⟨j + 1, true, by omega, by go_num, rfl, HNX.out, bthen HBY.out HBM.out HBY.out.size⟩
                          case measure => simp [intOf]; omega
                        · have HNX : Hid (fulN C F level i gr (j + 1) = false) := Lib.hid (by rw [HFS.out, HFU.out]; simp [hl])
                          go_wp2
                          go_roundw
                          case rel => exact ⟨j + 1, false, by omega, by go_num, rfl, HNX.out, bthen HBY.out HBM.out HBY.out.size⟩
                          case measure => simp [intOf]; omega
                      · have hzq : (le == 0) = false := by simpa using hz
                        have HNX : Hid (fulN C F level i gr (j + 1) = false) := Lib.hid (by rw [HFS.out, HFU.out]; simp [hz])
                        clear hz
                        go_wp2
                        go_roundw
                        case rel => exact ⟨j + 1, false, by omega, by go_num, rfl, HNX.out, bthen HBY.out HBM.out HBY.out.size⟩
                        case measure => simp [intOf]; omega
                    · have hqq : (con == (i : Int)) = false := by simpa using hq
                      have HNX : Hid (fulN C F level i gr (j + 1) = false) := Lib.hid (by rw [HFS.out, HFU.out]; simp [hq])
                      clear hq
                      go_wp2
                      go_roundw
                      case rel => exact ⟨j + 1, false, by omega, by go_num, rfl, HNX.out, bthen HBY.out HBM.out HBY.out.size⟩
                      case measure => simp [intOf]; omega
                  · have HNX : Hid (fulN C F level i gr (j + 1) = true) := Lib.hid (by rw [HFS.out, HFU.out]; simp)
                    go_wp2
                    go_roundw
                    case rel => exact ⟨j + 1, true, by omega, by go_num, rfl, HNX.out, bthen HBY.out HBM.out HBY.out.size⟩
                    case measure => simp [intOf]; omega
                · have e : j = nF := by omega
                  subst e
                  have HFA : Hid (fullB C F level i = fu) := Lib.hid (by rw [← HFU.out]; exact (fulN_all HT.out HX.out HFL.out).symm)
                  have hrv : reaV C S F day level (i : Int) = (if du then 1 else 0) + if fu then 2 else 0 := by rw [HRW.out, HFA.out]
                  obtain ⟨y, hy⟩ : ∃ y, reaV C S F day level (i : Int) = y := ⟨_, rfl⟩
                  have HYV := Lib.hid hy
                  have hyv : y = (if du then 1 else 0) + if fu then 2 else 0 := hy.symm.trans hrv
                  have HZY : Hid (Below w.heap.size w wr) := Lib.hid (bthen HB2.out HBY.out HB2.out.size)
                  have HKY := Lib.hid (K2.out.grow HBY.out)
                  have HRY := Lib.hid (HR.out.up HBY.out)
                  clear hy hrv q0 q1 q2 q3 q4 q5 q6 q7
                  obtain ⟨q0, q1, q2, q3, q4, q5, q6, q7⟩ := casCells HKY.out
                  have zq := HKY.out.lt
                  simp only at q0 q1 q2
                  cases du <;> cases fu
                  · obtain rfl : y = 0 := by simpa using hyv
                    clear hyv
                    have HNL : Hid ((dk C S F day level f t v (i + 1)).length = nn) := Lib.hid (by rw [dk_no HX.out HYV.out]; exact HNN.out)
                    cases hnx : L[nn]? with
                    | none =>
                      have hnl : L.length ≤ nn := List.getElem?_eq_none_iff.1 hnx
                      clear hnx
                      go_wp2_with (go_at_call 14; ((with_reducible refine (lwhy_val (HIN.out.up HZY.out) HT.out HI.out HYV.out HD.out).mono ?_); rintro e w7 ⟨rfl, hb7⟩; have HB7 := Lib.hid (bthen HBY.out hb7 HBY.out.size); clear hb7))
                      go_roundw
                      case rel => exact ⟨i + 1, by omega, by go_num, by rw [HNL.out], HB7.out⟩
                      case measure => simp [intOf]; omega
                    | some d =>
                      have hnl := (List.getElem?_eq_some_iff.1 hnx).1
                      obtain ⟨bL, oL, hA, hbL, _⟩ := HRY.out.2 (by omega)
                      subst hA
                      have c0 := (HRY.out.cells_ hnl hnx (Below.refl _ _)).2 0 _ rfl
                      rw [Nat.add_zero] at c0
                      have hne : d.con ≠ (i : Int) := next_not (f := f) (t := t) (v := v) HX.out HYV.out (by rw [HNN.out, ← HLA.out]; exact hnx)
                      have hqq : (d.con == (i : Int)) = false := by simpa using hne
                      have n1 : (0 : Int) ≤ (nn : Int) := by omega
                      have n2 : (nn : Int) < (L.length : Int) := by omega
                      clear hnx hne
                      go_wp2_with (go_at_call 14; ((with_reducible refine (lwhy_val (HIN.out.up HZY.out) HT.out HI.out HYV.out HD.out).mono ?_); rintro e w7 ⟨rfl, hb7⟩; have HB7 := Lib.hid (bthen HBY.out hb7 HBY.out.size); clear hb7))
                      go_roundw
                      case rel => exact ⟨i + 1, by omega, by go_num, by rw [HNL.out], HB7.out⟩
                      case measure => simp [intOf]; omega
                  · obtain rfl : y = 2 := by simpa using hyv
                    clear hyv
                    have hrn : reaV C S F day level (i : Int) ≠ 0 := by rw [HYV.out]; decide
                    have HNL : Hid ((dk C S F day level f t v (i + 1)).length = nn + 1) := Lib.hid (by rw [dk_yes HX.out hrn, List.length_append, HNN.out]; rfl)
                    have hnx : L[nn]? = some (demAt C F f t v i ⟨id, kind, lit, gr, node⟩) := by
                      have := next_is (f := f) (t := t) (v := v) HX.out hrn
                      rwa [HNN.out, ← HLA.out] at this
                    have hnl := (List.getElem?_eq_some_iff.1 hnx).1
                    obtain ⟨bL, oL, hA, hbL, _⟩ := HRY.out.2 (by omega)
                    subst hA
                    have c0 : wr.cell? ⟨bL, oL + nn * 7, none⟩ = some (.int .i64 (i : Int)) := by
                      have := (HRY.out.cells_ hnl hnx (Below.refl _ _)).2 0 _ rfl
                      rwa [Nat.add_zero] at this
                    have n1 : (0 : Int) ≤ (nn : Int) := by omega
                    have n2 : (nn : Int) < (L.length : Int) := by omega
                    clear hnx hrn
                    go_wp2_with (go_at_call 14; ((with_reducible refine (lwhy_val (HIN.out.up HZY.out) HT.out HI.out HYV.out HD.out).mono ?_); rintro e w7 ⟨rfl, hb7⟩; have HB7 := Lib.hid (bthen HBY.out hb7 HBY.out.size); clear hb7))
                    go_roundw
                    case rel => exact ⟨i + 1, by omega, by go_num, by rw [HNL.out]; go_num, HB7.out⟩
                    case measure => simp [intOf]; omega
                  · obtain rfl : y = 1 := by simpa using hyv
                    clear hyv
                    have hrn : reaV C S F day level (i : Int) ≠ 0 := by rw [HYV.out]; decide
                    have HNL : Hid ((dk C S F day level f t v (i + 1)).length = nn + 1) := Lib.hid (by rw [dk_yes HX.out hrn, List.length_append, HNN.out]; rfl)
                    have hnx : L[nn]? = some (demAt C F f t v i ⟨id, kind, lit, gr, node⟩) := by
                      have := next_is (f := f) (t := t) (v := v) HX.out hrn
                      rwa [HNN.out, ← HLA.out] at this
                    have hnl := (List.getElem?_eq_some_iff.1 hnx).1
                    obtain ⟨bL, oL, hA, hbL, _⟩ := HRY.out.2 (by omega)
                    subst hA
                    have c0 : wr.cell? ⟨bL, oL + nn * 7, none⟩ = some (.int .i64 (i : Int)) := by
                      have := (HRY.out.cells_ hnl hnx (Below.refl _ _)).2 0 _ rfl
                      rwa [Nat.add_zero] at this
                    have n1 : (0 : Int) ≤ (nn : Int) := by omega
                    have n2 : (nn : Int) < (L.length : Int) := by omega
                    clear hnx hrn
                    go_wp2_with (go_at_call 14; ((with_reducible refine (lwhy_val (HIN.out.up HZY.out) HT.out HI.out HYV.out HD.out).mono ?_); rintro e w7 ⟨rfl, hb7⟩; have HB7 := Lib.hid (bthen HBY.out hb7 HBY.out.size); clear hb7))
                    go_roundw
                    case rel => exact ⟨i + 1, by omega, by go_num, by rw [HNL.out]; go_num, HB7.out⟩
                    case measure => simp [intOf]; omega
                  · obtain rfl : y = 3 := by simpa using hyv
                    clear hyv
                    have hrn : reaV C S F day level (i : Int) ≠ 0 := by rw [HYV.out]; decide
                    have HNL : Hid ((dk C S F day level f t v (i + 1)).length = nn + 1) := Lib.hid (by rw [dk_yes HX.out hrn, List.length_append, HNN.out]; rfl)
                    have hnx : L[nn]? = some (demAt C F f t v i ⟨id, kind, lit, gr, node⟩) := by
                      have := next_is (f := f) (t := t) (v := v) HX.out hrn
                      rwa [HNN.out, ← HLA.out] at this
                    have hnl := (List.getElem?_eq_some_iff.1 hnx).1
                    obtain ⟨bL, oL, hA, hbL, _⟩ := HRY.out.2 (by omega)
                    subst hA
                    have c0 : wr.cell? ⟨bL, oL + nn * 7, none⟩ = some (.int .i64 (i : Int)) := by
                      have := (HRY.out.cells_ hnl hnx (Below.refl _ _)).2 0 _ rfl
                      rwa [Nat.add_zero] at this
                    have n1 : (0 : Int) ≤ (nn : Int) := by omega
                    have n2 : (nn : Int) < (L.length : Int) := by omega
                    clear hnx hrn
                    go_wp2_with (go_at_call 14; ((with_reducible refine (lwhy_val (HIN.out.up HZY.out) HT.out HI.out HYV.out HD.out).mono ?_); rintro e w7 ⟨rfl, hb7⟩; have HB7 := Lib.hid (bthen HBY.out hb7 HBY.out.size); clear hb7))
                    go_roundw
                    case rel => exact ⟨i + 1, by omega, by go_num, by rw [HNL.out]; go_num, HB7.out⟩
                    case measure => simp [intOf]; omega
        · have e : i = nC := by omega
          subst e
          have hnL : nn = L.length := by rw [← HNN.out, HLA.out, dk_all HCL.out]
          subst hnL
          go_wp2_with (first
            | (go_at_call 10; refine (awake_any _).mono ?_; rintro e w9 ⟨rfl, hb9⟩; have HB9 := Lib.hid (bthen (bthen HB2.out HB.out HB2.out.size) hb9 (bthen HB2.out HB.out HB2.out.size).size); clear hb9))
          go_ret
          exact ⟨rfl, HB9.out⟩
    · have hq : (E != 0) = true := by simpa using h0
      obtain rfl : L = [] := HL.out.symm.trans (mak_nz (by rw [HE.out]; exact h0))
      clear h0
      go_wp2_with (first
        | (go_at_call 10; refine (awake_any _).mono ?_; rintro e w9 ⟨rfl, hb9⟩; have HB9 := Lib.hid (bthen HB2.out hb9 HB2.out.size); clear hb9))
      go_ret
      exact ⟨rfl, HB9.out⟩
  · go_wp2_with fail
    refine (awake_any _).mono ?_
    rintro e w9 ⟨rfl, hb9⟩
    have HB := Lib.hid (bthen HB1.out hb9 HB1.out.size)
    clear hb9
    go_wp2
    go_ret
    exact ⟨rfl, HB.out⟩

theorem own : ownKnob Try.prog.godebug = none := by kernel_rfl
theorem laidOut : laidOutB Try.prog = true := by kernel_rfl
set_option maxRecDepth 100000 in
theorem lifted (os : Os) (started : os.Started) (H : Type) (enc : TypeId × Value → H) :
    ReturnsInHanded {} Try.checked os 6 .any (Rows.demandReasonsSpec.pre6 enc Try.prog Try.f6 Rows.demandReasonsRow.domain false) (Rows.demandReasonsSpec.post enc Try.prog Try.f6 false true false false) := by
  refine returnsInHanded_of_change (C := Try.checked) own started (by kernel_rfl) Try.func6
    (ChangeSpec.witness6 (enc := enc) (C := Try.checked) false ⟨#[], #[.agg #[.slice none 0 0, .slice none 0 0, .slice none 0 0, .int .i64 0, .int .i64 0, .int .i64 0, .int .i64 0, .int .i64 0]], []⟩ 8 (by kernel_rfl) (by kernel_rfl) (by kernel_rfl) (by kernel_rfl)) ?_
  intro W base args ds gs before hval0 hW hcnd _
  have hval : ∀ (j : Nat) t v, Try.f6.params[j]? = some t → args[j]? = some v → Value.okWide Try.prog W .any base t v := hval0
  have hW' := hW
  obtain ⟨p, q, hA0, hV, rfl, hfz, hnd⟩ := hW
  have hA : DataW.TrodAll enc Try.prog W 0 (fun _ => true) true Try.f6.params.toList args.toList ds p := hA0
  rw [Try.params6] at hA hval
  obtain ⟨v0, vs0, d0, ds0, p0, q0, hargs, rfl, rfl, h0, r0⟩ := trodAll_cons hA
  obtain ⟨rfl, rfl, rfl⟩ := trodAll_nil r0
  obtain rfl : args = #[v0] := by cases args; simp_all
  obtain ⟨rfl, rfl⟩ := trodVars_none hV
  have k0 := h0
  have lt0 : ∀ x ∈ p0, x.block < W.heap.size := by obtain ⟨m, hm⟩ := k0; exact DataW.trod_lt m _ _ _ hm
  have O0 := open_case W (hval 0 28 v0 rfl rfl) h0
  clear hA0 hval0
  refine (walk W v0 O0).mono fun e W' ⟨he, bel⟩ => ?_
  subst he
  exact ⟨_, rfl, _, _, _, [], _, [], hW', trodAll_mk1 (shut_bool Try.underlying4 _), (trodAll_cons_mk (Below.trod laidOut (by kernel_rfl) (of_decide_eq_true (by kernel_rfl)) k0 bel lt0) trodAll_mk0), rfl, bel.frame _, fun h => by cases h⟩
theorem over : Rows.demandReasonsRow.holds Try.pinned (OpenSpec.ofChange Rows.demandReasonsSpec) :=
  OpenClaim.holds_of_wide 6 Try.f6 rfl rfl rfl rfl rfl rfl rfl ⟨rfl, rfl, rfl, rfl, rfl⟩ rfl rfl rfl rfl rfl (by kernel_rfl) Try.func6 (by kernel_rfl)
    (of_decide_eq_true (by kernel_rfl)) (by unfold Func.isWrapper; first | (rw [if_pos (by decide +kernel)]; kernel_rfl) | (rw [if_neg (by decide +kernel)]; exact ⟨rfl, rfl⟩))
    (fun os started H enc _ => lifted os started H enc)
theorem proved : Rows.DemandReasonsSaid := over
#print axioms proved

end Go.Proofs.Ytpeidgfaejnhiaa.demandReasons
