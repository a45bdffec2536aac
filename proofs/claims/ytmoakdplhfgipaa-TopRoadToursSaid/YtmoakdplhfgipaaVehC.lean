/- Contracts of Check of vehicles, of the program and of the reference. -/
import Derived.Test.YtmoakdplhfgipaaVehF
import Derived.Test.YtmoakdplhfgipaaSeen
namespace Go.Proofs.Ytmoakdplhfgipaa
set_option maxRecDepth 20000
open Go.RowKit Go.Maps

set_option maxRecDepth 100000 in
set_option maxHeartbeats 1600000 in
theorem check_any {w : World} {A : Option Addr} {n c : Nat} {L : List Veh} (h : RdT w (· < w.heap.size) 6 Veh.cs A n L) (hn : n ≤ maxLen) (hsz : ∀ x ∈ L, x.id.size ≤ maxLen) (m q : Int) :
    Calls Try.prog 28 #[.slice A n c, .int .i64 m, .int .i64 q] w fun e w' => e = .returned (.int .i64 (chkV L m q)) ∧ Below w.heap.size w w' := by
  have hlen : L.length = n := h.1
  unfold maxLen at hn
  by_cases hb : chkB m q
  · have hE : chkV L m q = 1 := if_pos hb
    rw [hE]
    unfold chkB at hb
    clear hE h hsz hlen
    go_enter Try.func28, Try.ntmps28
    go_wp2
    all_goals first | (exfalso; omega) | (go_ret; exact ⟨rfl, Below.refl _ _⟩)
  have HBD := Lib.hid hb
  unfold chkB at hb
  have m1 : 1 ≤ m := by omega
  have m64 : m ≤ 64 := by omega
  have q1 : 1 ≤ q := by omega
  have q16 : q ≤ 16 := by omega
  clear hb
  by_cases h0 : n = 0
  · have hE : chkV L m q = 10 := by unfold chkV; rw [if_neg HBD.out, if_pos (by omega)]
    rw [hE]
    subst h0
    clear hE h hsz hlen
    go_enter Try.func28, Try.ntmps28
    go_wp2
    all_goals first | (exfalso; omega) | (go_ret; exact ⟨rfl, Below.refl _ _⟩)
  have hn0 : ((n : Int) == 0) = false := by simp; omega
  have H0 : Hid (¬ L.length = 0) := Lib.hid (by omega)
  clear h0
  by_cases h16 : 16 < n
  · have hE : chkV L m q = 8 := by unfold chkV; rw [if_neg HBD.out, if_neg H0.out, if_pos (by omega)]
    rw [hE]
    clear hE h hsz hlen
    go_enter Try.func28, Try.ntmps28
    go_wp2
    all_goals first | (exfalso; omega) | (go_ret; exact ⟨rfl, Below.refl _ _⟩)
  have HL := Lib.hid hlen
  have H := Lib.hid h
  have HSZ := Lib.hid hsz
  have H16 : Hid (¬ 16 < L.length) := Lib.hid (by rw [hlen]; exact h16)
  clear h hsz hlen
  have hmm := @run_makeMap Try.prog
  go_enter Try.func28, Try.ntmps28
  go_wp2
  go_loopw [35] (fun i wr => ∃ k : Nat, k ≤ n ∧ i = .int .i64 (k : Nat) ∧ firstE ((L.map (vehE · m q)).take k) = 0 ∧ Below w.heap.size w wr) (fun i _ => n - (intOf i).toNat)
  case atStart => exact ⟨0, Nat.zero_le _, rfl, rfl, Below.refl _ _⟩
  case round =>
    obtain ⟨k, hk, rfl, hE, hbel⟩ := hrel
    have HE := Lib.hid hE
    have HB := Lib.hid hbel
    clear hE hbel
    by_cases hlt : k < n
    · obtain ⟨x, hx⟩ := at_lt (l := L) (k := k) (by rw [HL.out]; exact hlt)
      obtain ⟨b, o, rfl, hb, hc⟩ := H.out.2 (by omega)
      have hcx := (H.out.cells_ hlt hx HB.out).2
      have c0 := hcx 0 _ rfl
      rw [Nat.add_zero] at c0
      have c1 := hcx 1 _ rfl
      have c2 := hcx 2 _ rfl
      have c3 := hcx 3 _ rfl
      have c4 := hcx 4 _ rfl
      have c5 := hcx 5 _ rfl
      clear hcx hc
      have hxs := HSZ.out x (List.mem_of_getElem? hx)
      have HX := Lib.hid hx
      have HX1 := Lib.hid (firstE_take HE.out (show (L.map (vehE · m q))[k]? = some (vehE x m q) by simp [hx]))
      clear hx
      have HBA := Lib.hid (HB.out.alloc HB.out.size (.cells x.vs 46))
      by_cases he : vehE x m q = 0
      · have HC := Lib.hid he
        clear he
        go_wp2_with (go_at_call 46; refine (fault_any x m q _ hxs q1 q16).mono ?_; rw [HC.out]; rintro e w1 ⟨rfl, hb1⟩; have HB1 := Lib.hid (HBA.out.trans (hb1.mono HBA.out.size)); clear hb1)
        go_roundw
        case rel => exact ⟨k + 1, by omega, by go_num, by rw [HX1.out, HC.out], HB1.out⟩
        case measure => simp [intOf]; omega
      · have he' : (vehE x m q == 0) = false := by simpa using he
        have he2 : (vehE x m q != 0) = true := by simpa using he
        have HC := Lib.hid he
        clear he
        go_wp2_with (go_at_call 46; refine (fault_any x m q _ hxs q1 q16).mono ?_; rintro e w1 ⟨rfl, hb1⟩; have HB1 := Lib.hid (HBA.out.trans (hb1.mono HBA.out.size)); clear hb1)
        go_ret
        exact ⟨ret_int (chk_errV HBD.out H0.out H16.out HE.out HX.out rfl HC.out).symm, HB1.out⟩
    · have e : k = n := by omega
      subst e
      have hE0 : firstE (L.map (vehE · m q)) = 0 := by
        have := HE.out
        rwa [List.take_of_length_le (by rw [List.length_map, HL.out]; exact Nat.le_refl _)] at this
      have HE0 := Lib.hid (chk_dupV HBD.out H0.out H16.out hE0)
      obtain ⟨wo, rfl⟩ : ∃ wo : World, wo = wr := ⟨_, rfl⟩
      have HS := Lib.hid (Seen.made wo)
      have hz : w.heap.size ≤ wo.heap.size := HB.out.size
      clear hE0
      go_wp2
      go_loopw [50] (fun i wx => ∃ j : Nat, j ≤ k ∧ i = .int .i64 (j : Nat) ∧ ((L.map Veh.id).take j).Nodup ∧ Seen wx wo.heap.size j ((L.map Veh.id).take j) ∧ Below w.heap.size w wx) (fun i _ => k - (intOf i).toNat)
      case atStart => exact ⟨0, Nat.zero_le _, rfl, List.nodup_nil, HS.out, HB.out.alloc hz _⟩
      case round =>
        obtain ⟨j, hj, rfl, hnd, hseen, hbel⟩ := hrel
        have HND := Lib.hid hnd
        have HSN := Lib.hid hseen
        have HBL := Lib.hid hbel
        clear hnd hseen hbel
        by_cases hlt2 : j < k
        · obtain ⟨x, hx⟩ := at_lt (l := L) (k := j) (by rw [HL.out]; exact hlt2)
          obtain ⟨b, o, rfl, hb, hc⟩ := H.out.2 (by omega)
          have hcx := (H.out.cells_ hlt2 hx HBL.out).2
          have c0 := hcx 0 _ rfl
          rw [Nat.add_zero] at c0
          have c1 := hcx 1 _ rfl
          have c2 := hcx 2 _ rfl
          have c3 := hcx 3 _ rfl
          have c4 := hcx 4 _ rfl
          have c5 := hcx 5 _ rfl
          clear hcx hc
          have hxs := HSZ.out x (List.mem_of_getElem? hx)
          have hidx : (L.map Veh.id)[j]? = some x.id := by simp [hx]
          have HTK : Hid ((L.map Veh.id).take (j + 1) = (L.map Veh.id).take j ++ [x.id]) := Lib.hid (by rw [List.take_add_one, hidx]; rfl)
          have hlook := (HSN.out.alloc (.cells x.vs 46)).look hxs
          clear hidx hx
          by_cases hm : x.id ∈ (L.map Veh.id).take j
          · have hm2 := memB_iff.2 hm
            rw [hm2] at hlook
            have HM := Lib.hid hm
            clear hm hm2
            go_wp2_with fail
            go_ret
            refine ⟨ret_int ?_, HBL.out.alloc HBL.out.size _⟩
            rw [HE0.out, if_neg]
            intro hnod
            have h2 : ((L.map Veh.id).take (j + 1)).Nodup := hnod.sublist (List.take_sublist _ _)
            rw [HTK.out, List.nodup_append] at h2
            exact h2.2.2 _ HM.out _ (List.mem_singleton.2 rfl) rfl
          · have hm2 := memB_false.2 hm
            rw [hm2] at hlook
            have HM := Lib.hid hm
            clear hm hm2
            obtain ⟨D, hown, hD⟩ := HSN.out.alloc (.cells x.vs 46)
            have HO := Lib.hid hown
            have HK := Lib.hid (WideMaps.keyOf_string_mk Try.underlying9 hxs)
            clear hown
            go_wp2_with (at_mapUpdate; refine wpList_mapUpdate_own _ rfl _ _ _ 107 rfl 9 4 lawSS Try.underlying107 _ wo.heap.size j D rfl HO.out (by unfold maxLen; omega) _ _ _ rfl rfl HK.out _ [] (plainElem_bool Try.underlying4 true) ?_; intro w1 hown1 hg1; have HS1 := Lib.hid (Seen.add HO.out hD hown1); have HG1 := Lib.hid hg1; clear hown1 hg1)
            go_roundw
            case rel => exact ⟨j + 1, by omega, by go_num, by rw [HTK.out, List.nodup_append]; exact ⟨HND.out, by simp, by intro a ha b hb e; simp at hb; subst hb; subst e; exact HM.out ha⟩, by rw [HTK.out]; exact HS1.out, (HBL.out.alloc HBL.out.size _).grown HG1.out (by have := HBL.out.size; simp; omega) (fun b e => by cases e; exact hz)⟩
            case measure => simp [intOf]; omega
        · have e : j = k := by omega
          subst e
          go_wp2
          go_ret
          refine ⟨ret_int ?_, HBL.out⟩
          have h2 : (L.map Veh.id).Nodup := by
            have := HND.out
            rwa [List.take_of_length_le (by rw [List.length_map, HL.out]; exact Nat.le_refl _)] at this
          rw [HE0.out, if_pos h2]

set_option maxRecDepth 100000 in
set_option maxHeartbeats 1600000 in
theorem rcheck_any {w : World} {A : Option Addr} {n c : Nat} {L : List Veh} (h : RdT w (· < w.heap.size) 6 Veh.cs A n L) (hn : n ≤ maxLen) (hsz : ∀ x ∈ L, x.id.size ≤ maxLen) (m q : Int) :
    Calls Try.prog 10 #[.slice A n c, .int .i64 m, .int .i64 q] w fun e w' => e = .returned (.int .i64 (chkV L m q)) ∧ Below w.heap.size w w' := by
  have hlen : L.length = n := h.1
  unfold maxLen at hn
  by_cases hb : chkB m q
  · have hE : chkV L m q = 1 := if_pos hb
    rw [hE]
    unfold chkB at hb
    clear hE h hsz hlen
    go_enter Try.func10, Try.ntmps10
    go_wp2
    all_goals first | (exfalso; omega) | (go_ret; exact ⟨rfl, Below.refl _ _⟩)
  have HBD := Lib.hid hb
  unfold chkB at hb
  have m1 : 1 ≤ m := by omega
  have m64 : m ≤ 64 := by omega
  have q1 : 1 ≤ q := by omega
  have q16 : q ≤ 16 := by omega
  clear hb
  by_cases h0 : n = 0
  · have hE : chkV L m q = 10 := by unfold chkV; rw [if_neg HBD.out, if_pos (by omega)]
    rw [hE]
    subst h0
    clear hE h hsz hlen
    go_enter Try.func10, Try.ntmps10
    go_wp2
    all_goals first | (exfalso; omega) | (go_ret; exact ⟨rfl, Below.refl _ _⟩)
  have hn0 : ((n : Int) == 0) = false := by simp; omega
  have H0 : Hid (¬ L.length = 0) := Lib.hid (by omega)
  clear h0
  by_cases h16 : 16 < n
  · have hE : chkV L m q = 8 := by unfold chkV; rw [if_neg HBD.out, if_neg H0.out, if_pos (by omega)]
    rw [hE]
    clear hE h hsz hlen
    go_enter Try.func10, Try.ntmps10
    go_wp2
    all_goals first | (exfalso; omega) | (go_ret; exact ⟨rfl, Below.refl _ _⟩)
  have HL := Lib.hid hlen
  have H := Lib.hid h
  have HSZ := Lib.hid hsz
  have H16 : Hid (¬ 16 < L.length) := Lib.hid (by rw [hlen]; exact h16)
  clear h hsz hlen
  go_enter Try.func10, Try.ntmps10
  go_wp2
  go_loopw [7] (fun i wr => ∃ k : Nat, k ≤ n ∧ i = .int .i64 (k : Nat) ∧ firstE ((L.map (vehE · m q)).take k) = 0 ∧ Below w.heap.size w wr) (fun i _ => n - (intOf i).toNat)
  case atStart => exact ⟨0, Nat.zero_le _, rfl, rfl, Below.refl _ _⟩
  case round =>
    obtain ⟨k, hk, rfl, hE, hbel⟩ := hrel
    have HE := Lib.hid hE
    have HB := Lib.hid hbel
    clear hE hbel
    by_cases hlt : k < n
    · obtain ⟨x, hx⟩ := at_lt (l := L) (k := k) (by rw [HL.out]; exact hlt)
      obtain ⟨b, o, rfl, hb, hc⟩ := H.out.2 (by omega)
      have hcx := (H.out.cells_ hlt hx HB.out).2
      have c0 := hcx 0 _ rfl
      rw [Nat.add_zero] at c0
      have c1 := hcx 1 _ rfl
      have c2 := hcx 2 _ rfl
      have c3 := hcx 3 _ rfl
      have c4 := hcx 4 _ rfl
      have c5 := hcx 5 _ rfl
      clear hcx hc
      have hxs := HSZ.out x (List.mem_of_getElem? hx)
      have HX := Lib.hid hx
      have HX1 := Lib.hid (firstE_take HE.out (show (L.map (vehE · m q))[k]? = some (vehE x m q) by simp [hx]))
      clear hx
      by_cases he : vehE x m q = 0
      · have HC := Lib.hid he
        clear he
        go_wp2_with (go_at_call 19; refine (rfault_any x m q _ hxs q1 q16).mono ?_; rw [HC.out]; rintro e w1 ⟨rfl, hb1⟩; have HB1 := Lib.hid (HB.out.trans (hb1.mono HB.out.size)); clear hb1)
        go_roundw
        case rel => exact ⟨k + 1, by omega, by go_num, by rw [HX1.out, HC.out], HB1.out⟩
        case measure => simp [intOf]; omega
      · have he' : (vehE x m q == 0) = false := by simpa using he
        have he2 : (vehE x m q != 0) = true := by simpa using he
        have HC := Lib.hid he
        clear he
        go_wp2_with (go_at_call 19; refine (rfault_any x m q _ hxs q1 q16).mono ?_; rintro e w1 ⟨rfl, hb1⟩; have HB1 := Lib.hid (HB.out.trans (hb1.mono HB.out.size)); clear hb1)
        go_ret
        exact ⟨ret_int (chk_errV HBD.out H0.out H16.out HE.out HX.out rfl HC.out).symm, HB1.out⟩
    · have e : k = n := by omega
      subst e
      have hE0 : firstE (L.map (vehE · m q)) = 0 := by
        have := HE.out
        rwa [List.take_of_length_le (by rw [List.length_map, HL.out]; exact Nat.le_refl _)] at this
      have HE0 := Lib.hid (chk_dupV HBD.out H0.out H16.out hE0)
      obtain ⟨wo, rfl⟩ : ∃ wo : World, wo = wr := ⟨_, rfl⟩
      clear hE0
      go_wp2
      go_loopw [9] (fun i wx => ∃ j : Nat, j ≤ k ∧ i = .int .i64 (j : Nat) ∧ ((L.map Veh.id).take j).Nodup ∧ Below w.heap.size w wx) (fun i _ => k - (intOf i).toNat)
      case atStart => exact ⟨0, Nat.zero_le _, rfl, List.nodup_nil, HB.out⟩
      case round =>
        obtain ⟨j, hj, rfl, hnd, hbel⟩ := hrel
        have HND := Lib.hid hnd
        have HBL := Lib.hid hbel
        clear hnd hbel
        by_cases hlt2 : j < k
        · obtain ⟨x, hx⟩ := at_lt (l := L) (k := j) (by rw [HL.out]; exact hlt2)
          obtain ⟨b, o, rfl, hb, hc⟩ := H.out.2 (by omega)
          clear hc
          have HX := Lib.hid hx
          have HTK : Hid ((L.map Veh.id).take (j + 1) = (L.map Veh.id).take j ++ [x.id]) := Lib.hid (by rw [List.take_add_one, List.getElem?_map, hx]; rfl)
          clear hx
          obtain ⟨w2, rfl⟩ : ∃ w2 : World, w2 = wr := ⟨_, rfl⟩
          go_wp2
          go_loopw [10] (fun i wx => ∃ t : Nat, t ≤ j ∧ i = .int .i64 (t : Nat) ∧ x.id ∉ (L.map Veh.id).take t ∧ Below w.heap.size w wx) (fun i _ => j - (intOf i).toNat)
          case atStart => exact ⟨0, Nat.zero_le _, rfl, by simp, HBL.out⟩
          case round =>
            obtain ⟨t, ht, rfl, hnot, hbx⟩ := hrel
            have HNOT := Lib.hid hnot
            have HBX := Lib.hid hbx
            clear hnot hbx
            by_cases hlt3 : t < j
            · obtain ⟨y, hy⟩ := at_lt (l := L) (k := t) (by rw [HL.out]; omega)
              have c0 := (H.out.cells_ hlt2 HX.out HBX.out).2 0 _ rfl
              have d0 := (H.out.cells_ (by omega) hy HBX.out).2 0 _ rfl
              rw [Nat.add_zero] at c0 d0
              have HTY : Hid ((L.map Veh.id).take (t + 1) = (L.map Veh.id).take t ++ [y.id]) := Lib.hid (by rw [List.take_add_one, List.getElem?_map, hy]; rfl)
              clear hy
              have i1 : (0 : Int) ≤ (j : Int) := by omega
              have i2 : (j : Int) < (k : Int) := by omega
              have i3 : (0 : Int) ≤ (t : Int) := by omega
              have i4 : (t : Int) < (k : Int) := by omega
              by_cases hxy : x.id = y.id
              · have he := bytes_self y.id
                have HXY := Lib.hid hxy
                rw [hxy] at c0
                clear hxy
                go_wp2
                go_quiet (fail)
                go_wp2
                go_ret
                refine ⟨ret_int ?_, belowN HBX.out _⟩
                rw [HE0.out, if_neg]
                intro hnod
                have h2 : ((L.map Veh.id).take (j + 1)).Nodup := hnod.sublist (List.take_sublist _ _)
                rw [HTK.out, List.nodup_append] at h2
                have h3 : y.id ∈ (L.map Veh.id).take j := by
                  have h4 : y.id ∈ (L.map Veh.id).take (t + 1) := by rw [HTY.out]; simp
                  exact (List.take_sublist_take_left (by omega)).subset h4
                exact h2.2.2 _ h3 _ (List.mem_singleton.2 rfl) HXY.out.symm
              · have he := bytes_ne hxy
                have HXY := Lib.hid hxy
                clear hxy
                go_wp2
                go_quiet (fail)
                go_wp2
                go_roundw
                case rel => exact ⟨t + 1, by omega, by go_num, by rw [HTY.out]; intro h; rcases List.mem_append.1 h with h | h; exact HNOT.out h; exact HXY.out (List.mem_singleton.1 h), belowN HBX.out _⟩
                case measure => simp [intOf]; omega
            · have e : t = j := by omega
              subst e
              go_wp2
              go_roundw
              case rel => exact ⟨t + 1, by omega, by go_num, by rw [HTK.out, List.nodup_append]; exact ⟨HND.out, by simp, by intro a ha b hb e; simp at hb; subst hb; subst e; exact HNOT.out ha⟩, HBX.out⟩
              case measure => simp [intOf]; omega
        · have e : j = k := by omega
          subst e
          go_wp2
          go_ret
          refine ⟨ret_int ?_, HBL.out⟩
          have h2 : (L.map Veh.id).Nodup := by
            have := HND.out
            rwa [List.take_of_length_le (by rw [List.length_map, HL.out]; exact Nat.le_refl _)] at this
          rw [HE0.out, if_pos h2]
end Go.Proofs.Ytmoakdplhfgipaa
