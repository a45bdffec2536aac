/- The contract of the reference's Check of a register. -/
import Derived.Test.YtpeidgfaejnhiaaConC
import Derived.Deep.QuietTactic
import Derived.BigQuiet
namespace Go.Proofs.Ytpeidgfaejnhiaa
open Go.RowKit Go.Maps

theorem chk_err {L : List Con} {k : Nat} {x : Con} {m q v : Int} (h256 : ¬ 256 < L.length) (hE : firstE ((L.map (conE · m q)).take k) = 0) (hx : L[k]? = some x) (he : conE x m q = v) (hv : v ≠ 0) : chkL L m q = v := by
  have h1 := firstE_take hE (conE_at (m := m) (q := q) hx)
  have h2 := firstE_stop (l := L.map (conE · m q)) (k := k + 1) (by rw [h1, he]; exact hv)
  unfold chkL
  have e1 : firstE (L.map (conE · m q)) = v := by rw [h2, h1, he]
  rw [if_neg h256, if_pos (by rw [e1]; exact hv), e1]
theorem conE_bad {x : Con} {m q : Int} (h : validB x.id.data.toList = false) : conE x m q = 5 := by unfold conE; rw [if_pos h]
theorem bytes_beq (s t : ByteArray) : (s.toList == t.toList) = decide (s = t) := by
  by_cases h : s = t
  · subst h; rw [bytes_self]; simp
  · rw [bytes_ne h]; simp [h]
/-- the element of a slice of structs: its cells, one by one -/
theorem RdT.cells_ {α : Type} {w wr : World} {B size : Nat} {cs : α → List Value} {b o n k : Nat} {L : List α} {x : α} (h : RdT w (· < B) size cs (some ⟨b, o, none⟩) n L) (hk : k < n) (hx : L[k]? = some x) (hb : Below B w wr) :
    b < B ∧ ∀ j u, (cs x)[j]? = some u → wr.cell? ⟨b, o + k * size + j, none⟩ = some u := by
  obtain ⟨b', o', e, hb', hc⟩ := h.2 (by omega)
  injection e with e
  injection e with e1 e2
  subst e1; subst e2
  exact ⟨hb', fun j u hu => (hb.cell (p := ⟨b, o + k * size + j, none⟩) hb').trans (by rw [Nat.add_assoc]; exact hc k x hx j u hu)⟩

set_option maxRecDepth 100000 in
set_option maxHeartbeats 1600000 in
theorem rcheck_any {w : World} {A : Option Addr} {n c : Nat} {L : List Con} (h : RdT w (· < w.heap.size) 5 Con.cs A n L) (hn : n ≤ maxLen) (hsz : ∀ x ∈ L, x.id.size ≤ maxLen) (m q : Int) :
    Calls Try.prog 36 #[.slice A n c, .int .i64 m, .int .i64 q] w fun e w' => e = .returned (.int .i64 (chkL L m q)) ∧ Below w.heap.size w w' := by
  have hlen : L.length = n := h.1
  unfold maxLen at hn
  by_cases h256 : 256 < n
  · have hE : chkL L m q = 8 := if_pos (by rw [hlen]; exact h256)
    rw [hE]
    clear hE h hsz hlen
    go_enter Try.func36, Try.ntmps36
    go_wp2
    go_ret
    exact ⟨rfl, Below.refl _ _⟩
  have HL := Lib.hid hlen
  have H := Lib.hid h
  have HSZ := Lib.hid hsz
  have H256 : Hid (¬ 256 < L.length) := Lib.hid (by rw [hlen]; exact h256)
  clear h hsz hlen
  go_enter Try.func36, Try.ntmps36
  go_wp2
  go_loopw [16] (fun i wr => ∃ k : Nat, k ≤ n ∧ i = .int .i64 (k : Nat) ∧ firstE ((L.map (conE · m q)).take k) = 0 ∧ Below w.heap.size w wr) (fun i _ => n - (intOf i).toNat)
  case atStart => exact ⟨0, Nat.zero_le _, rfl, rfl, Below.refl _ _⟩
  case round =>
    obtain ⟨k, hk, rfl, hE, hbel⟩ := hrel
    have HE := Lib.hid hE
    have HB := Lib.hid hbel
    clear hE hbel
    by_cases hlt : k < n
    · obtain ⟨x, hx⟩ := at_lt (l := L) (k := k) (by rw [HL.out]; exact hlt)
      obtain ⟨b, o, rfl, hb, hc⟩ := H.out.2 (by omega)
      have hcx := (H.out.cells_ hlt hx HB.out).2
      have c0 := hcx 0 _ rfl
      rw [Nat.add_zero] at c0
      have c1 := hcx 1 _ rfl
      have c2 := hcx 2 _ rfl
      have c3 := hcx 3 _ rfl
      have c4 := hcx 4 _ rfl
      clear hcx hc
      have hxs := HSZ.out x (List.mem_of_getElem? hx)
      have HX := Lib.hid hx
      have HX1 := Lib.hid (firstE_take HE.out (conE_at (m := m) (q := q) hx))
      clear hx
      have HBA : Hid (Below w.heap.size w (wr.alloc (.cells x.vs 49))) := Lib.hid (HB.out.alloc HB.out.size _)
      cases hv : validB x.id.data.toList
      · have HV := Lib.hid hv
        clear hv
        go_wp2_with (go_at_call 50; refine (rvalid_val HV.out _ hxs).mono ?_; rintro e w' ⟨rfl, rfl⟩)
        go_ret
        exact ⟨ret_int (chk_err H256.out HE.out HX.out (conE_bad HV.out) (by decide)).symm, HBA.out⟩
      · have HV := Lib.hid hv
        clear hv
        go_wp2_with (go_at_call 50; refine (rvalid_val HV.out _ hxs).mono ?_; rintro e w' ⟨rfl, rfl⟩)
        all_goals first
          | (go_ret; refine ⟨ret_int (chk_err H256.out HE.out HX.out ?_ (by decide)).symm, HBA.out⟩; unfold conE; rw [if_neg (by simp [HV.out])]; repeat (first | rw [if_pos (by omega)] | rw [if_neg (by omega)]))
          | (go_roundw
             case rel => exact ⟨k + 1, by omega, by go_num, by rw [HX1.out]; unfold conE; rw [if_neg (by simp [HV.out])]; repeat (first | rw [if_pos (by omega)] | rw [if_neg (by omega)]), HBA.out⟩
             case measure => simp [intOf]; omega)
    · have e : k = n := by omega
      subst e
      have hE0 : firstE (L.map (conE · m q)) = 0 := by
        have := HE.out
        rwa [List.take_of_length_le (by rw [List.length_map, HL.out]; exact Nat.le_refl _)] at this
      have HE0 := Lib.hid hE0
      obtain ⟨wo, rfl⟩ : ∃ wo : World, wo = wr := ⟨_, rfl⟩
      clear hE0
      go_wp2
      go_loopw [63] (fun i wx => ∃ j : Nat, j ≤ k ∧ i = .int .i64 (j : Nat) ∧ ((L.map Con.id).take j).Nodup ∧ Below w.heap.size w wx) (fun i _ => k - (intOf i).toNat)
      case atStart => exact ⟨0, Nat.zero_le _, rfl, List.nodup_nil, HB.out⟩
      case round =>
        obtain ⟨j, hj, rfl, hnd, hbel⟩ := hrel
        have HND := Lib.hid hnd
        have HBL := Lib.hid hbel
        clear hnd hbel
        by_cases hlt2 : j < k
        · obtain ⟨x, hx⟩ := at_lt (l := L) (k := j) (by rw [HL.out]; exact hlt2)
          obtain ⟨b, o, rfl, hb, hc⟩ := H.out.2 (by omega)
          clear hc
          have HX := Lib.hid hx
          have HTK : Hid ((L.map Con.id).take (j + 1) = (L.map Con.id).take j ++ [x.id]) := Lib.hid (by rw [List.take_add_one, List.getElem?_map, hx]; rfl)
          clear hx
          obtain ⟨w2, rfl⟩ : ∃ w2 : World, w2 = wr := ⟨_, rfl⟩
          go_wp2
          go_loopw [10] (fun i wx => ∃ t : Nat, t ≤ j ∧ i = .int .i64 (t : Nat) ∧ x.id ∉ (L.map Con.id).take t ∧ Below w.heap.size w wx) (fun i _ => j - (intOf i).toNat)
          case atStart => exact ⟨0, Nat.zero_le _, rfl, by simp, HBL.out⟩
          case round =>
            obtain ⟨t, ht, rfl, hnot, hbx⟩ := hrel
            have HNOT := Lib.hid hnot
            have HBX := Lib.hid hbx
            clear hnot hbx
            by_cases hlt3 : t < j
            · obtain ⟨y, hy⟩ := at_lt (l := L) (k := t) (by rw [HL.out]; omega)
              have c0 := (H.out.cells_ hlt2 HX.out HBX.out).2 0 _ rfl
              have d0 := (H.out.cells_ (by omega) hy HBX.out).2 0 _ rfl
              rw [Nat.add_zero] at c0 d0
              have HTY : Hid ((L.map Con.id).take (t + 1) = (L.map Con.id).take t ++ [y.id]) := Lib.hid (by rw [List.take_add_one, List.getElem?_map, hy]; rfl)
              have HY := Lib.hid hy
              clear hy
              have i1 : (0 : Int) ≤ (j : Int) := by omega
              have i2 : (j : Int) < (k : Int) := by omega
              have i3 : (0 : Int) ≤ (t : Int) := by omega
              have i4 : (t : Int) < (k : Int) := by omega
              by_cases hxy : x.id = y.id
              · have he := bytes_self y.id
                have HXY := Lib.hid hxy
                rw [hxy] at c0
                clear hxy
                go_wp2
                go_quiet (fail)
                go_wp2
                go_ret
                refine ⟨ret_int ?_, belowN HBX.out _⟩
                unfold chkL
                rw [if_neg H256.out, if_neg (by rw [HE0.out]; decide), if_neg]
                intro hnod
                have h2 : ((L.map Con.id).take (j + 1)).Nodup := hnod.sublist (List.take_sublist _ _)
                rw [HTK.out, List.nodup_append] at h2
                have h3 : y.id ∈ (L.map Con.id).take j := by
                  have h4 : y.id ∈ (L.map Con.id).take (t + 1) := by rw [HTY.out]; simp
                  exact (List.take_sublist_take_left (by omega)).subset h4
                exact h2.2.2 _ h3 _ (List.mem_singleton.2 rfl) HXY.out.symm
              · have he := bytes_ne hxy
                have HXY := Lib.hid hxy
                clear hxy
                go_wp2
                go_quiet (fail)
                go_wp2
                go_roundw
                case rel => exact ⟨t + 1, by omega, by go_num, by rw [HTY.out]; intro h; rcases List.mem_append.1 h with h | h; exact HNOT.out h; exact HXY.out (List.mem_singleton.1 h), belowN HBX.out _⟩
                case measure => simp [intOf]; omega
            · have e : t = j := by omega
              subst e
              go_wp2
              go_roundw
              case rel => exact ⟨t + 1, by omega, by go_num, by rw [HTK.out, List.nodup_append]; exact ⟨HND.out, by simp, by intro a ha b hb e; simp at hb; subst hb; subst e; exact HNOT.out ha⟩, HBX.out⟩
              case measure => simp [intOf]; omega
        · have e : j = k := by omega
          subst e
          go_wp2
          go_ret
          refine ⟨ret_int ?_, HBL.out⟩
          unfold chkL
          have h2 : (L.map Con.id).Nodup := by
            have := HND.out
            rwa [List.take_of_length_le (by rw [List.length_map, HL.out]; exact Nat.le_refl _)] at this
          rw [if_neg H256.out, if_neg (by rw [HE0.out]; decide), if_pos h2]
end Go.Proofs.Ytpeidgfaejnhiaa
