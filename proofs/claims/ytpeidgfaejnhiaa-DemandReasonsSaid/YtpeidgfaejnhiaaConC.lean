/- The contract of container.Check: a register's first error. -/
import Derived.Test.YtpeidgfaejnhiaaCon
import Derived.Test.YtpeidgfaejnhiaaSeen
namespace Go.Proofs.Ytpeidgfaejnhiaa
open Go.RowKit Go.Maps

theorem conE_at {L : List Con} {k : Nat} {x : Con} {m q : Int} (hx : L[k]? = some x) : (L.map (conE · m q))[k]? = some (conE x m q) := by simp [hx]
set_option maxRecDepth 100000 in
set_option maxHeartbeats 800000 in
theorem check_any {w : World} {A : Option Addr} {n c : Nat} {L : List Con} (h : RdT w (· < w.heap.size) 5 Con.cs A n L) (hn : n ≤ maxLen) (hsz : ∀ x ∈ L, x.id.size ≤ maxLen) (m q : Int) :
    Calls Try.prog 43 #[.slice A n c, .int .i64 m, .int .i64 q] w fun e w' => e = .returned (.int .i64 (chkL L m q)) ∧ Below w.heap.size w w' := by
  have hlen : L.length = n := h.1
  unfold maxLen at hn
  by_cases h256 : 256 < n
  · have hE : chkL L m q = 8 := if_pos (by rw [hlen]; exact h256)
    rw [hE]
    clear hE h hsz hlen
    go_enter Try.func43, Try.ntmps43
    go_wp2
    go_ret
    exact ⟨rfl, Below.refl _ _⟩
  have HL := Lib.hid hlen
  have H := Lib.hid h
  have HSZ := Lib.hid hsz
  clear h hsz hlen
  have hmm := @run_makeMap Try.prog
  go_enter Try.func43, Try.ntmps43
  go_wp2
  go_loopw [18] (fun i wr => ∃ k : Nat, k ≤ n ∧ i = .int .i64 (k : Nat) ∧ firstE ((L.map (conE · m q)).take k) = 0 ∧ Below w.heap.size w wr) (fun i _ => n - (intOf i).toNat)
  case atStart => exact ⟨0, Nat.zero_le _, rfl, rfl, Below.refl _ _⟩
  case round =>
    obtain ⟨k, hk, rfl, hE, hbel⟩ := hrel
    have HE := Lib.hid hE
    have HB := Lib.hid hbel
    clear hE hbel
    by_cases hlt : k < n
    · obtain ⟨x, hx⟩ := at_lt (l := L) (k := k) (by rw [HL.out]; exact hlt)
      obtain ⟨b, o, rfl, hb, hc⟩ := H.out.2 (by omega)
      have hcx : ∀ j u, x.cs[j]? = some u → wr.cell? ⟨b, o + k * 5 + j, none⟩ = some u := fun j u hu => (HB.out.cell (p := ⟨b, o + k * 5 + j, none⟩) hb).trans (by rw [Nat.add_assoc]; exact hc k x hx j u hu)
      have c0 := hcx 0 _ rfl
      rw [Nat.add_zero] at c0
      have c1 := hcx 1 _ rfl
      have c2 := hcx 2 _ rfl
      have c3 := hcx 3 _ rfl
      have c4 := hcx 4 _ rfl
      clear hcx hc
      have hxs := HSZ.out x (List.mem_of_getElem? hx)
      have HX := Lib.hid (firstE_take HE.out (conE_at (m := m) (q := q) hx))
      have HX2 := Lib.hid (firstE_stop (l := L.map (conE · m q)) (k := k + 1))
      clear hx
      by_cases he : conE x m q = 0
      · have HC := Lib.hid he
        clear he
        go_wp2_with (go_at_call 53; refine (con_any x m q _ hxs).mono ?_; rw [HC.out]; rintro e w' ⟨rfl, rfl⟩)
        go_roundw
        case rel => exact ⟨k + 1, by omega, by go_num, by rw [HX.out, HC.out], (HB.out.alloc HB.out.size _).alloc (by have := HB.out.size; simp; omega) _⟩
        case measure => simp [intOf]; omega
      · have he' : (conE x m q == 0) = false := by simpa using he
        have he2 : (conE x m q != 0) = true := by simpa using he
        have HC := Lib.hid he
        clear he
        go_wp2_with (go_at_call 53; refine (con_any x m q _ hxs).mono ?_; rintro e w' ⟨rfl, rfl⟩)
        go_ret
        refine ⟨ret_int ?_, (HB.out.alloc HB.out.size _).alloc (by have := HB.out.size; simp; omega) _⟩
        unfold chkL
        have e1 : firstE (L.map (conE · m q)) = conE x m q := by rw [HX2.out (by rw [HX.out]; exact HC.out), HX.out]
        rw [if_neg (by rw [HL.out]; exact h256), if_pos (by rw [e1]; exact HC.out), e1]
    · have e : k = n := by omega
      subst e
      have hE0 : firstE (L.map (conE · m q)) = 0 := by
        have := HE.out
        rwa [List.take_of_length_le (by rw [List.length_map, HL.out]; exact Nat.le_refl _)] at this
      have HE0 := Lib.hid hE0
      obtain ⟨wo, rfl⟩ : ∃ wo : World, wo = wr := ⟨_, rfl⟩
      have HS := Lib.hid (Seen.made wo)
      have hz : w.heap.size ≤ wo.heap.size := HB.out.size
      clear hE0
      go_wp2
      go_loopw [33] (fun i wx => ∃ j : Nat, j ≤ k ∧ i = .int .i64 (j : Nat) ∧ ((L.map Con.id).take j).Nodup ∧ Seen wx wo.heap.size j ((L.map Con.id).take j) ∧ Below w.heap.size w wx) (fun i _ => k - (intOf i).toNat)
      case atStart => exact ⟨0, Nat.zero_le _, rfl, List.nodup_nil, HS.out, HB.out.alloc hz _⟩
      case round =>
        obtain ⟨j, hj, rfl, hnd, hseen, hbel⟩ := hrel
        have HND := Lib.hid hnd
        have HSN := Lib.hid hseen
        have HBL := Lib.hid hbel
        clear hnd hseen hbel
        by_cases hlt2 : j < k
        · obtain ⟨x, hx⟩ := at_lt (l := L) (k := j) (by rw [HL.out]; exact hlt2)
          obtain ⟨b, o, rfl, hb, hc⟩ := H.out.2 (by omega)
          have hcx : ∀ i u, x.cs[i]? = some u → (wr.cell? ⟨b, o + j * 5 + i, none⟩ = some u) := fun i u hu => (HBL.out.cell (p := ⟨b, o + j * 5 + i, none⟩) hb).trans (by rw [Nat.add_assoc]; exact hc j x hx i u hu)
          have c0 := hcx 0 _ rfl
          rw [Nat.add_zero] at c0
          have c1 := hcx 1 _ rfl
          have c2 := hcx 2 _ rfl
          have c3 := hcx 3 _ rfl
          have c4 := hcx 4 _ rfl
          clear hcx hc
          have hxs := HSZ.out x (List.mem_of_getElem? hx)
          have hidx : (L.map Con.id)[j]? = some x.id := by simp [hx]
          have HID := Lib.hid hidx
          have HTK : Hid ((L.map Con.id).take (j + 1) = (L.map Con.id).take j ++ [x.id]) := Lib.hid (by rw [List.take_add_one, hidx]; rfl)
          have hlook := (HSN.out.alloc (.cells x.vs 49)).look hxs
          clear hidx hx
          by_cases hm : x.id ∈ (L.map Con.id).take j
          · have hm2 := memB_iff.2 hm
            rw [hm2] at hlook
            have HM := Lib.hid hm
            clear hm hm2
            go_wp2_with fail
            go_ret
            refine ⟨ret_int ?_, HBL.out.alloc HBL.out.size _⟩
            unfold chkL
            rw [if_neg (by rw [HL.out]; exact h256), if_neg (by rw [HE0.out]; decide), if_neg]
            intro hnod
            have h2 : ((L.map Con.id).take (j + 1)).Nodup := hnod.sublist (List.take_sublist _ _)
            rw [HTK.out, List.nodup_append] at h2
            exact h2.2.2 _ HM.out _ (List.mem_singleton.2 rfl) rfl
          · have hm2 := memB_false.2 hm
            rw [hm2] at hlook
            have HM := Lib.hid hm
            clear hm hm2
            obtain ⟨D, hown, hD⟩ := HSN.out.alloc (.cells x.vs 49)
            have HO := Lib.hid hown
            have HK := Lib.hid (WideMaps.keyOf_string_mk Try.underlying9 hxs)
            clear hown
            go_wp2_with (at_mapUpdate; refine wpList_mapUpdate_own _ rfl _ _ _ 88 rfl 9 4 lawSS Try.underlying88 _ wo.heap.size j D rfl HO.out (by unfold maxLen; omega) _ _ _ rfl rfl HK.out _ [] (plainElem_bool Try.underlying4 true) ?_; intro w1 hown1 hg1; have HS1 := Lib.hid (Seen.add HO.out hD hown1); have HG1 := Lib.hid hg1; clear hown1 hg1)
            go_roundw
            case rel => exact ⟨j + 1, by omega, by go_num, by rw [HTK.out, List.nodup_append]; exact ⟨HND.out, by simp, by intro a ha b hb e; simp at hb; subst hb; subst e; exact HM.out ha⟩, by rw [HTK.out]; exact HS1.out, (HBL.out.alloc HBL.out.size _).grown HG1.out (by have := HBL.out.size; simp; omega) (fun b e => by cases e; exact hz)⟩
            case measure => simp [intOf]; omega
        · have e : j = k := by omega
          subst e
          go_wp2
          go_ret
          refine ⟨ret_int ?_, HBL.out⟩
          unfold chkL
          have h2 : (L.map Con.id).Nodup := by
            have := HND.out
            rwa [List.take_of_length_le (by rw [List.length_map, HL.out]; exact Nat.le_refl _)] at this
          rw [if_neg (by rw [HL.out]; exact h256), if_neg (by rw [HE0.out]; decide), if_pos h2]
end Go.Proofs.Ytpeidgfaejnhiaa
