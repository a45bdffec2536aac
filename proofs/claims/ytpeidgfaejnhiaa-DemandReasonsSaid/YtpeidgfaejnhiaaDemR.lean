/- Contracts of the reference's Check, Same and of the laws' listed, great, made, why. -/
import Derived.Test.YtpeidgfaejnhiaaDemC
namespace Go.Proofs.Ytpeidgfaejnhiaa
open Go.RowKit Go.Maps

set_option maxRecDepth 100000 in
set_option maxHeartbeats 3200000 in
theorem rdchk_any {w : World} {A : Option Addr} {nL cL : Nat} {L : List Dem} (h : RdT w (· < w.heap.size) 7 Dem.cs A nL L) (hn : nL ≤ maxLen) (n m : Int) :
    Calls Try.prog 17 #[.slice A nL cL, .int .i64 n, .int .i64 m] w fun e w' => e = .returned (.int .i64 (demsE L n m)) ∧ Below w.heap.size w w' := by
  have hlen := h.1
  unfold maxLen at hn
  by_cases h256 : 32 < nL
  · have hE : demsE L n m = 8 := if_pos (by rw [hlen]; exact h256)
    rw [hE]
    clear hE h hlen
    go_enter Try.func17, Try.ntmps17
    go_wp2
    go_ret
    exact ⟨rfl, by go_grown⟩
  have H256 : Hid (¬ 32 < L.length) := Lib.hid (by rw [hlen]; exact h256)
  have n32 : nL ≤ 32 := by omega
  have HL := Lib.hid hlen
  have HM := Lib.hid h
  have HE1 : Hid (∀ k x v, firstE ((L.map (demE · n m)).take k) = 0 → L[k]? = some x → demE x n m = v → v ≠ 0 → demsE L n m = v) := Lib.hid fun k p v a b c d => dems_err H256.out a b c d
  have HE2 : Hid (firstE (L.map (demE · n m)) = 0 → demsE L n m = if (L.map Dem.con).Nodup then 0 else 6) := Lib.hid fun a => dems_dup H256.out a
  obtain ⟨E, hEE⟩ : ∃ E, demsE L n m = E := ⟨_, rfl⟩
  rw [hEE] at HE1 HE2 ⊢
  clear h hn hlen h256 H256 hEE
  go_enter Try.func17, Try.ntmps17
  go_wp2
  go_loopw [7] (fun i wr => ∃ k : Nat, k ≤ nL ∧ i = .int .i64 (k : Nat) ∧ firstE ((L.map (demE · n m)).take k) = 0 ∧ Below w.heap.size w wr) (fun i _ => nL - (intOf i).toNat)
  case atStart => exact ⟨0, Nat.zero_le _, rfl, rfl, Below.refl _ _⟩
  case round =>
    obtain ⟨k, hk, rfl, hE, hbel⟩ := hrel
    have HE := Lib.hid hE
    have HB := Lib.hid hbel
    clear hE hbel
    by_cases hlt : k < nL
    · obtain ⟨x, hx⟩ := at_lt (l := L) (k := k) (by rw [HL.out]; exact hlt)
      obtain ⟨b, o, rfl, hb, hc⟩ := HM.out.2 (by omega)
      have hcx := (HM.out.cells_ hlt hx HB.out).2
      have c0 := hcx 0 _ rfl
      rw [Nat.add_zero] at c0
      have c1 := hcx 1 _ rfl
      have c2 := hcx 2 _ rfl
      have c3 := hcx 3 _ rfl
      have c4 := hcx 4 _ rfl
      have c5 := hcx 5 _ rfl
      have c6 := hcx 6 _ rfl
      clear hcx hc
      have HX1 := Lib.hid (firstE_take HE.out (show (L.map (demE · n m))[k]? = some (demE x n m) by simp [hx]))
      have HX := Lib.hid hx
      clear hx
      obtain ⟨con, node, kind, gr, fr, to_, serv⟩ := x
      simp only at c0 c1 c2 c3 c4 c5 c6
      by_cases h7 : dem7 ⟨con, node, kind, gr, fr, to_, serv⟩ n m
      · have H7 := Lib.hid (demE_7 h7)
        unfold dem7 at h7
        simp only at h7
        go_wp2
        all_goals first | (exfalso; omega) | (go_ret; exact ⟨ret_int (HE1.out k _ 7 HE.out HX.out H7.out (by decide)).symm, bthen HB.out (by go_grown) HB.out.size⟩)
      have N7 := Lib.hid h7
      unfold dem7 at h7
      simp only at h7
      have n1 : 0 ≤ node := by omega
      have n2 : node < n := by omega
      have n3 : 0 ≤ kind := by omega
      have n4 : kind < m := by omega
      have n8 : 0 ≤ con := by omega
      have n9 : con < 256 := by omega
      clear h7
      by_cases h1 : dem1 ⟨con, node, kind, gr, fr, to_, serv⟩
      · have H1 := Lib.hid (demE_1 N7.out h1)
        unfold dem1 at h1
        simp only at h1
        go_wp2
        all_goals first | (exfalso; omega) | (go_ret; exact ⟨ret_int (HE1.out k _ 1 HE.out HX.out H1.out (by decide)).symm, bthen HB.out (by go_grown) HB.out.size⟩)
      have H0 := Lib.hid (demE_0 N7.out h1)
      unfold dem1 at h1
      simp only at h1
      have m1 : 0 ≤ gr := by omega
      have m2 : gr ≤ 1073741824 := by omega
      have m3 : 0 ≤ fr := by omega
      have m4 : fr ≤ to_ := by omega
      have m5 : to_ ≤ 86400 := by omega
      have m6 : 0 ≤ serv := by omega
      have m7 : serv ≤ 3600 := by omega
      clear h1
      go_wp2
      all_goals first | (exfalso; omega) | skip
      go_roundw
      case rel => exact ⟨k + 1, by omega, by go_num, by rw [HX1.out, H0.out], bthen HB.out (by go_grown) HB.out.size⟩
      case measure => simp [intOf]; omega
    · have e : k = nL := by omega
      subst e
      have hE0 : firstE (L.map (demE · n m)) = 0 := by
        have := HE.out
        rwa [List.take_of_length_le (by rw [List.length_map, HL.out]; exact Nat.le_refl _)] at this
      have HE0 := Lib.hid (HE2.out hE0)
      obtain ⟨wo, rfl⟩ : ∃ wo : World, wo = wr := ⟨_, rfl⟩
      clear hE0
      go_wp2
      go_loopw [9] (fun i wx => ∃ j : Nat, j ≤ k ∧ i = .int .i64 (j : Nat) ∧ ((L.map Dem.con).take j).Nodup ∧ Below w.heap.size w wx) (fun i _ => k - (intOf i).toNat)
      case atStart => exact ⟨0, Nat.zero_le _, rfl, List.nodup_nil, HB.out⟩
      case round =>
        obtain ⟨j, hj, rfl, hnd1, hbel⟩ := hrel
        have N1 := Lib.hid hnd1
        have HBL := Lib.hid hbel
        clear hnd1 hbel
        by_cases hlt2 : j < k
        · obtain ⟨x, hx⟩ := at_lt (l := L) (k := j) (by rw [HL.out]; exact hlt2)
          obtain ⟨con, node, kind, gr, fr, to_, serv⟩ := x
          obtain ⟨b, o, rfl, hb, hc⟩ := HM.out.2 (by omega)
          have i1 : Hid ((L.map Dem.con)[j]? = some con) := Lib.hid (by simp [hx])
          have HX := Lib.hid hx
          clear hx hc
          obtain ⟨w2, rfl⟩ : ∃ w2 : World, w2 = wr := ⟨_, rfl⟩
          go_wp2
          go_loopw [10] (fun i wy => ∃ t : Nat, t ≤ j ∧ i = .int .i64 (t : Nat) ∧ con ∉ (L.map Dem.con).take t ∧ Below w.heap.size w wy) (fun i _ => j - (intOf i).toNat)
          case atStart => exact ⟨0, Nat.zero_le _, rfl, by simp, HBL.out⟩
          case round =>
            obtain ⟨t, ht, rfl, hn1, hby⟩ := hrel
            have M1 := Lib.hid hn1
            have HBY := Lib.hid hby
            clear hn1 hby
            by_cases hlt3 : t < j
            · obtain ⟨q, hq⟩ := at_lt (l := L) (k := t) (by rw [HL.out]; omega)
              obtain ⟨con2, node2, kind2, gr2, fr2, to2, serv2⟩ := q
              have hc1 := (HM.out.cells_ hlt2 HX.out HBY.out).2
              have hc2 := (HM.out.cells_ (by omega) hq HBY.out).2
              have c0 := hc1 0 _ rfl
              have d0 := hc2 0 _ rfl
              rw [Nat.add_zero] at c0 d0
              have T1 : Hid ((L.map Dem.con).take (t + 1) = (L.map Dem.con).take t ++ [con2]) := Lib.hid (by rw [List.take_add_one, List.getElem?_map, hq]; rfl)
              have X1 : Hid ((L.map Dem.con)[t]? = some con2) := Lib.hid (by simp [hq])
              clear hc1 hc2 hq
              have x1 : (0 : Int) ≤ (j : Int) := by omega
              have x2 : (j : Int) < (k : Int) := by omega
              have x3 : (0 : Int) ≤ (t : Int) := by omega
              have x4 : (t : Int) < (k : Int) := by omega
              by_cases e1 : con = con2
              · subst e1
                go_wp2_with fail
                go_quiet (fail)
                go_wp2
                go_ret
                exact ⟨ret_int (by rw [HE0.out, if_neg (fun h => nod_not i1.out (List.mem_of_getElem? (i := t) (by rw [List.getElem?_take_of_lt hlt3]; exact X1.out)) h)]), belowN HBY.out _⟩
              have f1 : (con == con2) = false := by simpa using e1
              have E1 := Lib.hid e1
              clear e1
              go_wp2_with fail
              go_quiet (fail)
              go_wp2
              go_roundw
              case rel => exact ⟨t + 1, by omega, by go_num, by rw [T1.out, List.mem_append]; intro h; rcases h with h | h; exact M1.out h; exact E1.out (List.mem_singleton.1 h), belowN HBY.out _⟩
              case measure => simp [intOf]; omega
            · have e : t = j := by omega
              subst e
              go_wp2
              go_roundw
              case rel => exact ⟨t + 1, by omega, by go_num, nod_step N1.out i1.out M1.out, HBY.out⟩
              case measure => simp [intOf]; omega
        · have e : j = k := by omega
          subst e
          have hn1 : (L.map Dem.con).Nodup := by
            have := N1.out
            rwa [List.take_of_length_le (by rw [List.length_map, HL.out]; exact Nat.le_refl _)] at this
          have HN := Lib.hid hn1
          clear hn1
          go_wp2
          go_ret
          exact ⟨ret_int (by rw [HE0.out, if_pos HN.out]), HBL.out⟩
end Go.Proofs.Ytpeidgfaejnhiaa
