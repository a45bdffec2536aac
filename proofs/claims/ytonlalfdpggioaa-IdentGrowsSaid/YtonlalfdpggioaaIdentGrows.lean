/- IdentGrows: a table that is made of identifiers, and to which others are added, has the identifiers of the table that is made of all of them. No condition. -/
import Derived.Test.YtonlalfdpggioaaSame
import Derived.Test.YtonlalfdpggioaaOpen
namespace Go.Proofs.Ytonlalfdpggioaa.identGrows
open Go.ChangeShapes Go.WideShapes Go.ChangeAt Go.RowKit Go.Maps
set_option linter.unusedVariables false

theorem newE_append (l : List ByteArray) : ∀ (acc a b : List ByteArray), newE acc (a ++ b) = if newE acc a = 0 then newE (acc ++ a) b else newE acc a := by
  intro acc a
  induction a generalizing acc with
  | nil => intro b; simp [newE]
  | cons s r ih =>
    intro b
    rw [List.cons_append]
    by_cases h : addE acc s = 0
    · have e1 : ∀ x, newE acc (s :: x) = newE (acc ++ [s]) x := fun x => if_pos h
      rw [e1, e1, ih]; simp
    · have e1 : ∀ x, newE acc (s :: x) = addE acc s := fun x => if_neg h
      rw [e1, e1, if_neg h]
theorem newE_take (ss : List ByteArray) (k : Nat) : newE [] ss = if newE [] (ss.take k) = 0 then newE (ss.take k) (ss.drop k) else newE [] (ss.take k) := by
  have := newE_append [] [] (ss.take k) (ss.drop k)
  rw [List.take_append_drop] at this
  simpa using this

theorem rd_take {w : World} {S : Nat → Prop} {A : Option Addr} {n m : Nat} {ss : List ByteArray} (h : RdS w S A n (strs ss)) (hm : m ≤ n) : RdS w S A m (strs (ss.take m)) := by
  refine ⟨?_, fun h0 => ?_⟩
  · have := h.1
    rw [strs_length] at *
    rw [List.length_take]; omega
  · obtain ⟨b, o, e, hb, hc⟩ := h.2 (by omega)
    refine ⟨b, o, e, hb, fun j u hu => hc j u ?_⟩
    unfold strs at *
    rw [List.map_take, List.getElem?_take] at hu
    split at hu
    · exact hu
    · cases hu

set_option maxRecDepth 100000 in
set_option maxHeartbeats 1600000 in
theorem walk (w : World) (v : Value) (hv : IsStrs w v) (v1 : Value) (hv1 : IsInt .i64 v1) :
    Calls Try.prog 7 #[v, v1] w fun e w' => e = .returned (.bool true) ∧ Below w.heap.size w w' := by
  obtain ⟨A, n, c, ss, rfl, hr, hn, hsz, hnc⟩ := hv
  obtain ⟨a, rfl, ha⟩ := hv1
  have hlen : ss.length = n := by rw [← strs_length]; exact hr.1
  have HR := Lib.hid hr
  have HSZ := Lib.hid hsz
  have HS := Lib.hid (short_any (c := c) hr 60 hn hsz)
  cases hb : shortB ss 60
  · rw [hb] at HS
    clear hr hsz hlen hb
    go_enter Try.func7, Try.ntmps7
    go_wp2_with (first | (go_at_call 13; refine HS.out.mono ?_; rintro e w1 ⟨rfl, rfl⟩) | (go_at_call 12; refine (awake_any _).mono ?_; rintro e w1 ⟨rfl, hb1⟩))
    go_ret
    exact ⟨rfl, hb1⟩
  · rw [hb] at HS
    have hn60 : n ≤ 60 := by have := shortB_len hb; omega
    have HLEN := Lib.hid hlen
    by_cases ha0 : a < 0
    · clear hr hsz hlen hb
      go_enter Try.func7, Try.ntmps7
      go_wp2_with (first | (go_at_call 13; refine HS.out.mono ?_; rintro e w1 ⟨rfl, rfl⟩) | (go_at_call 12; refine (awake_any _).mono ?_; rintro e w1 ⟨rfl, hb1⟩))
      go_ret
      exact ⟨rfl, hb1⟩
    by_cases han : (n : Int) < a
    · clear hr hsz hlen hb
      go_enter Try.func7, Try.ntmps7
      go_wp2_with (first | (go_at_call 13; refine HS.out.mono ?_; rintro e w1 ⟨rfl, rfl⟩) | (go_at_call 12; refine (awake_any _).mono ?_; rintro e w1 ⟨rfl, hb1⟩))
      go_ret
      exact ⟨rfl, hb1⟩
    obtain ⟨m, rfl⟩ := Int.eq_ofNat_of_zero_le (show 0 ≤ a by omega)
    have hm : m ≤ n := by omega
    by_cases hE : newE [] ss = 0
    · have HE := Lib.hid hE
      have HE1 : Hid (newE [] (ss.take m) = 0) := Lib.hid (by
        have := newE_take ss m
        by_cases h : newE [] (ss.take m) = 0
        · exact h
        · rw [if_neg h] at this; rw [← this]; exact hE)
      clear hr hsz hlen hb hE ha0 han ha
      go_enter Try.func7, Try.ntmps7
      go_wp2_with fail
      refine HS.out.mono ?_
      rintro e w1 ⟨rfl, rfl⟩
      go_wp2_with fail
      refine (new_ok HR.out (by omega) HSZ.out HE.out).mono ?_
      rintro e w1 ⟨tb, mb, r, rfl, ht, hb1⟩
      have HB1 := Lib.hid hb1
      have HT1 := Lib.hid ht
      have HR1 := Lib.hid (HR.out.up hb1)
      clear hb1 ht
      have HR2 : Hid (RdS w1 (· < w1.heap.size) A m (strs (ss.take m))) := Lib.hid ((rd_take HR1.out hm))
      have HSZ2 : Hid (∀ s ∈ ss.take m, s.size ≤ maxLen) := Lib.hid (fun s hs => HSZ.out s (List.mem_of_mem_take hs))
      go_wp2_with fail
      refine (new_ok HR2.out (by omega) HSZ2.out HE1.out).mono ?_
      rintro e w2 ⟨tb2, mb2, r2, rfl, ht, hb2⟩
      have HB2 := Lib.hid hb2
      have HT2 := Lib.hid ht
      have HT1b := Lib.hid (HT1.out.grow hb2)
      have hbm2 := ht.bmb
      have hbt2 := ht.btb
      have s1 := HB1.out.size
      have s2 := hb2.size
      have t1 := HT1.out.tb_lt
      have m1 := HT1.out.mb_lt
      clear ht hb2
      go_wp2_with fail
      go_loopw [9] (fun i wr => ∃ (k : Nat) (r2 : Option Nat), m ≤ k ∧ k ≤ n ∧ i = .int .i64 (k : Nat) ∧ Tab wr w1.heap.size tb2 mb2 r2 (ss.take k) ∧ Below w1.heap.size w1 wr) (fun i _ => n - (intOf i).toNat)
      case atStart => exact ⟨m, r2, Nat.le_refl _, hm, rfl, HT2.out, HB2.out⟩
      case round =>
        obtain ⟨k, r3, hk1, hk, rfl, htab, hbel⟩ := hrel
        have HTAB := Lib.hid htab
        have HBEL := Lib.hid hbel
        clear htab hbel
        by_cases hlt : k < n
        · obtain ⟨b, o, u, rfl, hbw, hu, _⟩ := HR1.out.at_ hlt
          obtain ⟨s, hs⟩ := at_lt (l := ss) (k := k) (by rw [HLEN.out]; exact hlt)
          rw [strs_at hs] at hu
          cases hu
          have hcell : wr.cell? ⟨b, o + k, none⟩ = some (.string s) := by
            obtain ⟨b', o', u', he, _, hu', hc'⟩ := (HR1.out.below HBEL.out).at_ hlt
            injection he with he
            injection he with e1 e2
            subst e1; subst e2
            rw [strs_at hs] at hu'
            cases hu'
            exact hc'
          have hsz := HSZ.out s (List.mem_of_getElem? hs)
          have HTK := Lib.hid (take_succ' hs)
          have hlt' : (ss.take k).length < 1099511627776 := by rw [List.length_take]; omega
          have hkl : Hid ((ss.take k).length = k) := Lib.hid (by rw [List.length_take, HLEN.out]; omega)
          have ha0 : addE (ss.take k) s = 0 := by
            have e := newE_take ss k
            rw [HE.out] at e
            have e2 := newE_step hs
            by_cases h : newE [] (ss.take k) = 0
            · rw [if_pos h, e2] at e
              by_cases h' : addE (ss.take k) s = 0
              · exact h'
              · rw [if_neg h'] at e; exact e.symm
            · rw [if_neg h] at e; exact absurd e.symm h
          have hv := (addE_zero ha0).1
          have hno := (addE_zero ha0).2
          have HV := Lib.hid hv
          clear hs ha0 hv
          go_wp2_with fail
          refine (add_new HTAB.out hsz HV.out hno hlt').mono ?_
          rw [hkl.out]
          rintro e w3 ⟨rfl, r4, ht4, hturn⟩
          have HT4 := Lib.hid ht4
          have HTU := Lib.hid hturn
          clear ht4 hturn
          go_wp2
          go_roundw
          case rel => exact ⟨k + 1, r4, by omega, by omega, by go_num, by rw [HTK.out]; exact HT4.out, HBEL.out.trans (HTU.out.below HTAB.out HBEL.out.size)⟩
          case measure => simp [intOf]; omega
        · obtain rfl : k = n := by omega
          have htk : Hid (ss.take k = ss) := Lib.hid (List.take_of_length_le (by rw [HLEN.out]; omega))
          have HP : Hid (Tab wr w1.heap.size tb2 mb2 r3 ss) := Lib.hid (by have := HTAB.out; rw [htk.out] at this; exact this)
          have HW : Hid (Tab wr w.heap.size tb mb r ss) := Lib.hid (HT1.out.below HBEL.out t1 m1 fun k hk => (HT1.out.row_ge k hk).2)
          go_wp2_with fail
          refine (len_any HW.out).mono ?_
          rw [HLEN.out]
          rintro e w3 ⟨rfl, rfl⟩
          go_wp2_with fail
          refine (len_any HP.out).mono ?_
          rw [HLEN.out]
          rintro e w3 ⟨rfl, rfl⟩
          go_wp2_with fail
          go_loop [12] (fun i => ∃ k' : Nat, k' ≤ k ∧ i = .int .i64 (k' : Nat)) (fun i => k - (intOf i).toNat)
          case atStart => exact ⟨0, Nat.zero_le _, rfl⟩
          case round =>
            obtain ⟨j, hj, rfl⟩ := hrel
            by_cases hlt2 : j < k
            · obtain ⟨b, o, u, rfl, hbw, hu, _⟩ := HR1.out.at_ hlt2
              obtain ⟨s, hs⟩ := at_lt (l := ss) (k := j) (by rw [HLEN.out]; exact hlt2)
              rw [strs_at hs] at hu
              cases hu
              have hcell : wr.cell? ⟨b, o + j, none⟩ = some (.string s) := by
                obtain ⟨b', o', u', he, _, hu', hc'⟩ := (HR1.out.below HBEL.out).at_ hlt2
                injection he with he
                injection he with e1 e2
                subst e1; subst e2
                rw [strs_at hs] at hu'
                cases hu'
                exact hc'
              have HSJ := Lib.hid hs
              have hbs := bytes_self s
              clear hs
              go_wp2_with fail
              refine (name_yes HW.out HSJ.out).mono ?_
              rintro e w3 ⟨rfl, rfl⟩
              go_wp2_with fail
              refine (name_yes HP.out HSJ.out).mono ?_
              rintro e w3 ⟨rfl, rfl⟩
              go_wp2
              go_round
              case rel => exact ⟨j + 1, by omega, by go_num⟩
              case measure => simp [intOf]; omega
            · go_wp2_with fail
              refine (awake_any _).mono ?_
              rintro e w5 ⟨rfl, hb5⟩
              have HB5 := Lib.hid hb5
              clear hb5
              go_wp2
              go_ret
              have z := HBEL.out.size
              exact ⟨rfl, HB1.out.trans ((HBEL.out.mono s1).trans (HB5.out.mono (by omega)))⟩
    · have hne : (newE [] ss != 0) = true := by rw [bne_iff_ne]; exact hE
      by_cases hF : newE [] (ss.take m) = 0
      · have HE := Lib.hid hE
        have HE1 := Lib.hid hF
        have HE2 : Hid (newE [] ss = newE (ss.take m) (ss.drop m)) := Lib.hid (by rw [newE_take ss m, if_pos hF])
        generalize hg : newE [] ss = E at *
        have HG := Lib.hid hg
        clear hr hsz hlen hb hE hF ha0 han ha hg
        go_enter Try.func7, Try.ntmps7
        go_wp2_with fail
        refine HS.out.mono ?_
        rintro e w1 ⟨rfl, rfl⟩
        go_wp2_with fail
        refine (new_err HR.out (by omega) HSZ.out (by rw [HG.out]; exact HE.out)).mono ?_
        rw [HG.out]
        rintro e w1 ⟨rfl, hb1⟩
        have HB1 := Lib.hid hb1
        have HR1 := Lib.hid (HR.out.up hb1)
        clear hb1
        have HR2 : Hid (RdS w1 (· < w1.heap.size) A m (strs (ss.take m))) := Lib.hid ((rd_take HR1.out hm))
        have HSZ2 : Hid (∀ s ∈ ss.take m, s.size ≤ maxLen) := Lib.hid (fun s hs => HSZ.out s (List.mem_of_mem_take hs))
        go_wp2_with fail
        refine (new_ok HR2.out (by omega) HSZ2.out HE1.out).mono ?_
        rintro e w2 ⟨tb2, mb2, r2, rfl, ht, hb2⟩
        have HB2 := Lib.hid hb2
        have HT2 := Lib.hid ht
        have s1 := HB1.out.size
        have s2 := hb2.size
        clear ht hb2
        go_wp2_with fail
        go_loopw [9] (fun i wr => ∃ (k : Nat) (r2 : Option Nat), m ≤ k ∧ k ≤ n ∧ i = .int .i64 (k : Nat) ∧ Tab wr w1.heap.size tb2 mb2 r2 (ss.take k) ∧ Below w1.heap.size w1 wr ∧ E = newE (ss.take k) (ss.drop k)) (fun i _ => n - (intOf i).toNat)
        case atStart => exact ⟨m, r2, Nat.le_refl _, hm, rfl, HT2.out, HB2.out, HE2.out⟩
        case round =>
          obtain ⟨k, r3, hk1, hk, rfl, htab, hbel, hEk⟩ := hrel
          have HTAB := Lib.hid htab
          have HBEL := Lib.hid hbel
          have HEK := Lib.hid hEk
          clear htab hbel hEk
          have hlt : k < n := by
            rcases Nat.lt_or_ge k n with h1 | h1
            · exact h1
            · exfalso
              have h2 := HEK.out
              rw [List.drop_of_length_le (by rw [HLEN.out]; omega)] at h2
              exact HE.out h2
          obtain ⟨b, o, u, rfl, hbw, hu, _⟩ := HR1.out.at_ hlt
          obtain ⟨s, hs⟩ := at_lt (l := ss) (k := k) (by rw [HLEN.out]; exact hlt)
          rw [strs_at hs] at hu
          cases hu
          have hcell : wr.cell? ⟨b, o + k, none⟩ = some (.string s) := by
            obtain ⟨b', o', u', he, _, hu', hc'⟩ := (HR1.out.below HBEL.out).at_ hlt
            injection he with he
            injection he with e1 e2
            subst e1; subst e2
            rw [strs_at hs] at hu'
            cases hu'
            exact hc'
          have hsz := HSZ.out s (List.mem_of_getElem? hs)
          have HTK := Lib.hid (take_succ' hs)
          have HST := Lib.hid (newE_step hs)
          have hlt' : (ss.take k).length < 1099511627776 := by rw [List.length_take]; omega
          have hkl : Hid ((ss.take k).length = k) := Lib.hid (by rw [List.length_take, HLEN.out]; omega)
          clear hs
          rcases addE_cases (ss.take k) s with ⟨ha, hv⟩ | ⟨ha, hv, hm2⟩ | ⟨ha, hv, hm2⟩
          · have HV := Lib.hid hv
            have h5 : E = 5 := by
              have e := HEK.out
              rw [HST.out, if_neg (by rw [ha]; decide), ha] at e
              exact e
            subst h5
            clear hv ha
            go_wp2_with fail
            refine (add_name hsz HV.out).mono ?_
            rintro e w3 ⟨rfl, rfl⟩
            go_wp2_with fail
            refine (awake_any _).mono ?_
            rintro e w5 ⟨rfl, hb5⟩
            have HB5 := Lib.hid hb5
            clear hb5
            go_wp2
            go_ret
            have z := HBEL.out.size
            exact ⟨rfl, HB1.out.trans ((HBEL.out.mono s1).trans (HB5.out.mono (by omega)))⟩
          · have HV := Lib.hid hv
            have h5 : E = 6 := by
              have e := HEK.out
              rw [HST.out, if_neg (by rw [ha]; decide), ha] at e
              exact e
            subst h5
            clear hv ha
            go_wp2_with fail
            refine (add_twice HTAB.out hsz HV.out hm2).mono ?_
            rintro e w3 ⟨rfl, rfl⟩
            go_wp2_with fail
            refine (awake_any _).mono ?_
            rintro e w5 ⟨rfl, hb5⟩
            have HB5 := Lib.hid hb5
            clear hb5
            go_wp2
            go_ret
            have z := HBEL.out.size
            exact ⟨rfl, HB1.out.trans ((HBEL.out.mono s1).trans (HB5.out.mono (by omega)))⟩
          · have HV := Lib.hid hv
            have HA := Lib.hid ha
            clear hv ha
            go_wp2_with fail
            refine (add_new HTAB.out hsz HV.out hm2 hlt').mono ?_
            rw [hkl.out]
            rintro e w3 ⟨rfl, r4, ht4, hturn⟩
            have HT4 := Lib.hid ht4
            have HTU := Lib.hid hturn
            clear ht4 hturn
            go_wp2
            go_roundw
            case rel => exact ⟨k + 1, r4, by omega, by omega, by go_num, by rw [HTK.out]; exact HT4.out, HBEL.out.trans (HTU.out.below HTAB.out HBEL.out.size), by rw [HEK.out, HST.out, if_pos HA.out]⟩
            case measure => simp [intOf]; omega
      · have HE := Lib.hid hE
        have HF := Lib.hid hF
        have HE2 : Hid (newE [] (ss.take m) = newE [] ss) := Lib.hid (by rw [newE_take ss m, if_neg hF])
        generalize hg : newE [] ss = E at *
        have HG := Lib.hid hg
        clear hr hsz hlen hb hE hF ha0 han ha hg
        go_enter Try.func7, Try.ntmps7
        go_wp2_with fail
        refine HS.out.mono ?_
        rintro e w1 ⟨rfl, rfl⟩
        go_wp2_with fail
        refine (new_err HR.out (by omega) HSZ.out (by rw [HG.out]; exact HE.out)).mono ?_
        rw [HG.out]
        rintro e w1 ⟨rfl, hb1⟩
        have HB1 := Lib.hid hb1
        have HR1 := Lib.hid (HR.out.up hb1)
        clear hb1
        have HR2 : Hid (RdS w1 (· < w1.heap.size) A m (strs (ss.take m))) := Lib.hid ((rd_take HR1.out hm))
        have HSZ2 : Hid (∀ s ∈ ss.take m, s.size ≤ maxLen) := Lib.hid (fun s hs => HSZ.out s (List.mem_of_mem_take hs))
        go_wp2_with fail
        refine (new_err HR2.out (by omega) HSZ2.out HF.out).mono ?_
        rw [HE2.out]
        rintro e w2 ⟨rfl, hb2⟩
        have HB2 := Lib.hid hb2
        have s1 := HB1.out.size
        have s2 := hb2.size
        clear hb2
        go_wp2_with fail
        refine (awake_any _).mono ?_
        rintro e w5 ⟨rfl, hb5⟩
        have HB5 := Lib.hid hb5
        clear hb5
        go_wp2
        go_ret
        exact ⟨rfl, HB1.out.trans ((HB2.out.mono s1).trans (HB5.out.mono (by omega)))⟩

theorem own : ownKnob Try.prog.godebug = none := by kernel_rfl
theorem laidOut : laidOutB Try.prog = true := by kernel_rfl
set_option maxRecDepth 100000 in
theorem lifted (os : Os) (started : os.Started) (H : Type) (enc : TypeId × Value → H) :
    ReturnsInHanded {} Try.checked os 7 .any (Rows.identGrowsSpec.pre6 enc Try.prog Try.f7 Rows.identGrowsRow.domain false) (Rows.identGrowsSpec.post enc Try.prog Try.f7 false true false false) := by
  refine returnsInHanded_of_change (C := Try.checked) own started (by kernel_rfl) Try.func7
    (ChangeSpec.witness6 (enc := enc) (C := Try.checked) false ⟨#[], #[.slice none 0 0, .int .i64 0], []⟩ 8 (by kernel_rfl) (by kernel_rfl) (by kernel_rfl) (by kernel_rfl)) ?_
  intro W base args ds gs before hval0 hW hcnd _
  have hval : ∀ (j : Nat) t v, Try.f7.params[j]? = some t → args[j]? = some v → Value.okWide Try.prog W .any base t v := hval0
  have hW' := hW
  obtain ⟨p, q, hA0, hV, rfl, hfz, hnd⟩ := hW
  have hA : DataW.TrodAll enc Try.prog W 0 (fun _ => true) true Try.f7.params.toList args.toList ds p := hA0
  rw [Try.params7] at hA hval
  obtain ⟨v0, vs0, d0, ds0, p0, q0, hargs, rfl, rfl, h0, r0⟩ := trodAll_cons hA
  obtain ⟨v1, vs1, d1, ds1, p1, q1, rfl, rfl, rfl, h1, r1⟩ := trodAll_cons r0
  obtain ⟨rfl, rfl, rfl⟩ := trodAll_nil r1
  obtain rfl : args = #[v0, v1] := by cases args; simp_all
  obtain ⟨rfl, rfl⟩ := trodVars_none hV
  have k0 := h0
  have lt0 : ∀ x ∈ p0, x.block < W.heap.size := by obtain ⟨m, hm⟩ := k0; exact DataW.trod_lt m _ _ _ hm
  have O0 := open_strs W (hval 0 24 v0 rfl rfl) h0
  have k1 := h1
  have lt1 : ∀ x ∈ p1, x.block < W.heap.size := by obtain ⟨m, hm⟩ := k1; exact DataW.trod_lt m _ _ _ hm
  have O1 := open_int W (hval 1 3 v1 rfl rfl) h1
  clear hA0 hval0
  refine (walk W v0 O0 v1 O1).mono fun e W' ⟨he, bel⟩ => ?_
  subst he
  exact ⟨_, rfl, _, _, _, [], _, [], hW', trodAll_mk1 (shut_bool Try.underlying4 _), (trodAll_cons_mk (Below.trod laidOut (by kernel_rfl) (of_decide_eq_true (by kernel_rfl)) k0 bel lt0) (trodAll_cons_mk (Below.trod laidOut (by kernel_rfl) (of_decide_eq_true (by kernel_rfl)) k1 bel lt1) trodAll_mk0)), rfl, bel.frame _, fun h => by cases h⟩
theorem over : Rows.identGrowsRow.holds Try.pinned (OpenSpec.ofChange Rows.identGrowsSpec) :=
  OpenClaim.holds_of_wide 7 Try.f7 rfl rfl rfl rfl rfl rfl rfl ⟨rfl, rfl, rfl, rfl, rfl⟩ rfl rfl rfl rfl rfl (by kernel_rfl) Try.func7 (by kernel_rfl)
    (of_decide_eq_true (by kernel_rfl)) (by unfold Func.isWrapper; first | (rw [if_pos (by decide +kernel)]; kernel_rfl) | (rw [if_neg (by decide +kernel)]; exact ⟨rfl, rfl⟩))
    (fun os started H enc _ => lifted os started H enc)
theorem proved : Rows.IdentGrowsSaid := over
#print axioms proved

end Go.Proofs.Ytonlalfdpggioaa.identGrows
