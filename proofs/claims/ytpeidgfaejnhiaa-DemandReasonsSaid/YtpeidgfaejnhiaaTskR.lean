/- The contract of the reference's fills. -/
import Derived.Test.YtpeidgfaejnhiaaTskB
namespace Go.Proofs.Ytpeidgfaejnhiaa
open Go.RowKit Go.Maps

set_option maxRecDepth 100000 in
set_option maxHeartbeats 3200000 in
theorem rfils_any {w : World} {AC : Option Addr} {nC cC : Nat} {C : List Con} {AF : Option Addr} {nF cF : Nat} {F : List Fil} (hc : RdT w (· < w.heap.size) 5 Con.cs AC nC C) (hcn : nC ≤ maxLen) (hf : RdT w (· < w.heap.size) 3 Fil.cs AF nF F) (hn : nF ≤ maxLen) :
    Calls Try.prog 38 #[.slice AC nC cC, .slice AF nF cF] w fun e w' => e = .returned (.int .i64 (filsE C F)) ∧ Below w.heap.size w w' := by
  have hlen := hf.1
  have hlc := hc.1
  unfold maxLen at hn hcn
  by_cases h256 : 256 < nF
  · have hE : filsE C F = 8 := if_pos (by rw [hlen]; exact h256)
    rw [hE]
    clear hE hf hc hlen hlc
    go_enter Try.func38, Try.ntmps38
    go_wp2
    go_ret
    exact ⟨rfl, by go_grown⟩
  have H256 : Hid (¬ 256 < F.length) := Lib.hid (by rw [hlen]; exact h256)
  have n256 : nF ≤ 256 := by omega
  have HL := Lib.hid hlen
  have HLC := Lib.hid hlc
  have HM := Lib.hid hf
  have HC := Lib.hid hc
  have HE1 : Hid (∀ k x v, firstE ((F.map (filE C)).take k) = 0 → F[k]? = some x → filE C x = v → v ≠ 0 → filsE C F = v) := Lib.hid fun k p v a b c d => fils_err H256.out a b c d
  have HE2 : Hid (firstE (F.map (filE C)) = 0 → filsE C F = if (F.map Fil.con).Nodup then 0 else 6) := Lib.hid fun a => fils_dup H256.out a
  obtain ⟨E, hEE⟩ : ∃ E, filsE C F = E := ⟨_, rfl⟩
  rw [hEE] at HE1 HE2 ⊢
  clear hf hn hc hlen hlc h256 H256 hEE
  go_enter Try.func38, Try.ntmps38
  go_wp2
  go_loopw [5] (fun i wr => ∃ k : Nat, k ≤ nF ∧ i = .int .i64 (k : Nat) ∧ firstE ((F.map (filE C)).take k) = 0 ∧ Below w.heap.size w wr) (fun i _ => nF - (intOf i).toNat)
  case atStart => exact ⟨0, Nat.zero_le _, rfl, rfl, Below.refl _ _⟩
  case round =>
    obtain ⟨k, hk, rfl, hE, hbel⟩ := hrel
    have HE := Lib.hid hE
    have HB := Lib.hid hbel
    clear hE hbel
    by_cases hlt : k < nF
    · obtain ⟨x, hx⟩ := at_lt (l := F) (k := k) (by rw [HL.out]; exact hlt)
      obtain ⟨con, lo, hi⟩ := x
      obtain ⟨b, o, rfl, hb, hc⟩ := HM.out.2 (by omega)
      have hcx := (HM.out.cells_ hlt hx HB.out).2
      have c0 := hcx 0 _ rfl
      rw [Nat.add_zero] at c0
      have c1 := hcx 1 _ rfl
      have c2 := hcx 2 _ rfl
      have hbr : b < wr.heap.size := Nat.lt_of_lt_of_le hb HB.out.size
      clear hcx hc
      have HX1 := Lib.hid (firstE_take HE.out (show (F.map (filE C))[k]? = some (filE C ⟨con, lo, hi⟩) by simp [hx]))
      have HX := Lib.hid hx
      clear hx
      have x1 : (0 : Int) ≤ (k : Int) := by omega
      have x2 : (k : Int) < (nF : Int) := by omega
      by_cases j0 : con < 0
      · go_wp2
        all_goals first | (exfalso; omega) | (go_ret; exact ⟨ret_int (HE1.out k _ 7 HE.out HX.out (by unfold filE; rw [if_pos (by simp only; omega)]) (by decide)).symm, HB.out⟩)
      by_cases j1 : (nC : Int) ≤ con
      · go_wp2
        all_goals first | (exfalso; omega) | (go_ret; exact ⟨ret_int (HE1.out k _ 7 HE.out HX.out (by unfold filE; rw [if_pos (by rw [HLC.out]; simp only; omega)]) (by decide)).symm, HB.out⟩)
      obtain ⟨ci, rfl⟩ := Int.eq_ofNat_of_zero_le (by omega : 0 ≤ con)
      have hci : ci < nC := by omega
      obtain ⟨y, hy⟩ := at_lt (l := C) (k := ci) (by rw [HLC.out]; exact hci)
      obtain ⟨id, kind, lit, gr, node⟩ := y
      obtain ⟨b2, o2, rfl, hb2, hc2⟩ := HC.out.2 (by omega)
      have hcy := (HC.out.cells_ hci hy HB.out).2
      have d3 := hcy 3 _ rfl
      simp at d3
      have hbr2 : b2 < wr.heap.size := Nat.lt_of_lt_of_le hb2 HB.out.size
      have HEV : Hid (filE C ⟨(ci : Int), lo, hi⟩ = if lo < 0 ∨ hi < lo ∨ gr < hi then 1 else 0) := Lib.hid (by
        unfold filE
        rw [if_neg (by rw [HLC.out]; simp only; omega), grAt_is hy])
      have y1 : (0 : Int) ≤ (ci : Int) := by omega
      have y2 : (ci : Int) < (nC : Int) := by omega
      clear hcy hc2 hy j0 j1
      by_cases h1 : lo < 0
      · go_wp2_with fail
        go_quiet (fail)
        go_wp2
        go_ret
        exact ⟨ret_int (HE1.out k _ 1 HE.out HX.out (by rw [HEV.out, if_pos (by omega)]) (by decide)).symm, belowN (bthen HB.out (by go_grown) HB.out.size) _⟩
      have e1 : decide (lo < 0) = false := decide_eq_false h1
      by_cases h2 : hi < lo
      · go_wp2_with fail
        go_quiet (fail)
        go_wp2
        go_ret
        exact ⟨ret_int (HE1.out k _ 1 HE.out HX.out (by rw [HEV.out, if_pos (by omega)]) (by decide)).symm, belowN (bthen HB.out (by go_grown) HB.out.size) _⟩
      have e2 : decide (hi < lo) = false := decide_eq_false h2
      by_cases h3 : gr < hi
      · go_wp2_with fail
        go_quiet (fail)
        go_wp2
        go_ret
        exact ⟨ret_int (HE1.out k _ 1 HE.out HX.out (by rw [HEV.out, if_pos (by omega)]) (by decide)).symm, belowN (bthen HB.out (by go_grown) HB.out.size) _⟩
      have e3 : decide (gr < hi) = false := decide_eq_false h3
      go_wp2_with fail
      go_quiet (fail)
      go_wp2
      go_roundw
      case rel => exact ⟨k + 1, by omega, by go_num, by rw [HX1.out, HEV.out, if_neg (by omega)], belowN (bthen HB.out (by go_grown) HB.out.size) _⟩
      case measure => simp [intOf]; omega
    · have e : k = nF := by omega
      subst e
      have hE0 : firstE (F.map (filE C)) = 0 := by
        have := HE.out
        rwa [List.take_of_length_le (by rw [List.length_map, HL.out]; exact Nat.le_refl _)] at this
      have HE0 := Lib.hid (HE2.out hE0)
      obtain ⟨wo, rfl⟩ : ∃ wo : World, wo = wr := ⟨_, rfl⟩
      clear hE0
      go_wp2
      go_loopw [7] (fun i wx => ∃ j : Nat, j ≤ k ∧ i = .int .i64 (j : Nat) ∧ ((F.map Fil.con).take j).Nodup ∧ Below w.heap.size w wx) (fun i _ => k - (intOf i).toNat)
      case atStart => exact ⟨0, Nat.zero_le _, rfl, List.nodup_nil, HB.out⟩
      case round =>
        obtain ⟨j, hj, rfl, hnd1, hbel⟩ := hrel
        have N1 := Lib.hid hnd1
        have HBL := Lib.hid hbel
        clear hnd1 hbel
        by_cases hlt2 : j < k
        · obtain ⟨x, hx⟩ := at_lt (l := F) (k := j) (by rw [HL.out]; exact hlt2)
          obtain ⟨con, lo, hi⟩ := x
          obtain ⟨b, o, rfl, hb, hc⟩ := HM.out.2 (by omega)
          have i1 : Hid ((F.map Fil.con)[j]? = some con) := Lib.hid (by simp [hx])
          have HX := Lib.hid hx
          clear hx hc
          obtain ⟨w2, rfl⟩ : ∃ w2 : World, w2 = wr := ⟨_, rfl⟩
          go_wp2
          go_loopw [8] (fun i wy => ∃ t : Nat, t ≤ j ∧ i = .int .i64 (t : Nat) ∧ con ∉ (F.map Fil.con).take t ∧ Below w.heap.size w wy) (fun i _ => j - (intOf i).toNat)
          case atStart => exact ⟨0, Nat.zero_le _, rfl, by simp, HBL.out⟩
          case round =>
            obtain ⟨t, ht, rfl, hn1, hby⟩ := hrel
            have M1 := Lib.hid hn1
            have HBY := Lib.hid hby
            clear hn1 hby
            by_cases hlt3 : t < j
            · obtain ⟨q, hq⟩ := at_lt (l := F) (k := t) (by rw [HL.out]; omega)
              obtain ⟨con2, lo2, hi2⟩ := q
              have hc1 := (HM.out.cells_ hlt2 HX.out HBY.out).2
              have hc2 := (HM.out.cells_ (by omega) hq HBY.out).2
              have c0 := hc1 0 _ rfl
              have d0 := hc2 0 _ rfl
              rw [Nat.add_zero] at c0 d0
              have T1 : Hid ((F.map Fil.con).take (t + 1) = (F.map Fil.con).take t ++ [con2]) := Lib.hid (by rw [List.take_add_one, List.getElem?_map, hq]; rfl)
              have X1 : Hid ((F.map Fil.con)[t]? = some con2) := Lib.hid (by simp [hq])
              clear hc1 hc2 hq
              have x1 : (0 : Int) ≤ (j : Int) := by omega
              have x2 : (j : Int) < (k : Int) := by omega
              have x3 : (0 : Int) ≤ (t : Int) := by omega
              have x4 : (t : Int) < (k : Int) := by omega
              by_cases e1 : con = con2
              · subst e1
                go_wp2_with fail
                go_quiet (fail)
                go_wp2
                go_ret
                exact ⟨ret_int (by rw [HE0.out, if_neg (fun h => nod_not i1.out (List.mem_of_getElem? (i := t) (by rw [List.getElem?_take_of_lt hlt3]; exact X1.out)) h)]), belowN HBY.out _⟩
              have f1 : (con == con2) = false := by simpa using e1
              have E1 := Lib.hid e1
              clear e1
              go_wp2_with fail
              go_quiet (fail)
              go_wp2
              go_roundw
              case rel => exact ⟨t + 1, by omega, by go_num, by rw [T1.out, List.mem_append]; intro h; rcases h with h | h; exact M1.out h; exact E1.out (List.mem_singleton.1 h), belowN HBY.out _⟩
              case measure => simp [intOf]; omega
            · have e : t = j := by omega
              subst e
              go_wp2
              go_roundw
              case rel => exact ⟨t + 1, by omega, by go_num, nod_step N1.out i1.out M1.out, HBY.out⟩
              case measure => simp [intOf]; omega
        · have e : j = k := by omega
          subst e
          have hn1 : (F.map Fil.con).Nodup := by
            have := N1.out
            rwa [List.take_of_length_le (by rw [List.length_map, HL.out]; exact Nat.le_refl _)] at this
          have HN := Lib.hid hn1
          clear hn1
          go_wp2
          go_ret
          exact ⟨ret_int (by rw [HE0.out, if_pos HN.out]), HBL.out⟩
end Go.Proofs.Ytpeidgfaejnhiaa
