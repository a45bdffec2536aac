/- IdentTable: every identifier that was accepted is found at its number, whatever was added before and after it, and what is found under a number is what was looked for. No condition. -/
import Derived.Test.YtonlalfdpggioaaSame
import Derived.Test.YtonlalfdpggioaaOpen
namespace Go.Proofs.Ytonlalfdpggioaa.identTable
open Go.ChangeShapes Go.WideShapes Go.ChangeAt Go.RowKit Go.Maps
set_option linter.unusedVariables false

/-- the identifiers that are accepted -/
def accL (acc : List ByteArray) : List ByteArray → List ByteArray
  | [] => acc
  | s :: r => accL (if addE acc s = 0 then acc ++ [s] else acc) r
theorem accL_append (a b : List ByteArray) : ∀ acc, accL acc (a ++ b) = accL (accL acc a) b := by
  induction a with
  | nil => intro acc; rfl
  | cons s r ih => intro acc; exact ih _
theorem accL_take {ss : List ByteArray} {k : Nat} {s : ByteArray} (hs : ss[k]? = some s) : accL [] (ss.take (k + 1)) = if addE (accL [] (ss.take k)) s = 0 then accL [] (ss.take k) ++ [s] else accL [] (ss.take k) := by
  rw [take_succ' hs, accL_append]; rfl
theorem accL_len (l : List ByteArray) : ∀ acc, (accL acc l).length ≤ acc.length + l.length := by
  induction l with
  | nil => intro acc; simp [accL]
  | cons s r ih =>
    intro acc
    have := ih (if addE acc s = 0 then acc ++ [s] else acc)
    unfold accL
    split at this
    · rename_i h; rw [if_pos h]; simp at this ⊢; omega
    · rename_i h; rw [if_neg h]; simp at this ⊢; omega
theorem accL_mem (l : List ByteArray) : ∀ acc s, s ∈ accL acc l → s ∈ acc ∨ s ∈ l := by
  induction l with
  | nil => intro acc s h; exact .inl h
  | cons t r ih =>
    intro acc s h
    rcases ih _ s h with h1 | h1
    · split at h1
      · rcases List.mem_append.1 h1 with h2 | h2
        · exact .inl h2
        · simp at h2; subst h2; exact .inr (by simp)
      · exact .inl h1
    · exact .inr (by simp [h1])

theorem row_turn {w w' : World} {base tb mb n : Nat} {r r' : Option Nat} {acc : List ByteArray} {v : Value} {xs : List Value} (ht : Tab w base tb mb r acc) (h : w.ownsRow base 9 1 v n xs) (hT : TabTurn w w' tb mb r r')
    (hne : ∀ g, v.ownBlock = some g → r ≠ some g) : w'.ownsRow base 9 1 v n xs ∧ ∀ g, v.ownBlock = some g → r' ≠ some g := by
  obtain ⟨A, c, D, hb, _, _, hm, _⟩ := ht.go
  have n1 := own_blk_ne h hb (by decide)
  have n2 := own_map_ne h hm
  refine ⟨⟨h.1, ?_⟩, fun g hg => ?_⟩
  · rcases h.2 with hn | ⟨g, cap, cur, hv, hb, hgg, rest⟩
    · exact .inl hn
    · have hg : v.ownBlock = some g := by rw [hv]; rfl
      refine .inr ⟨g, cap, cur, hv, hb, ?_, rest⟩
      rw [hT.block g (h.lt g hg).2 (fun e => n1 (e ▸ hg)) (fun e => n2 (e ▸ hg)) (fun e => hne g hg e.symm)]
      exact hgg
  · rcases hT.row with e | ⟨g', e, hlt⟩
    · rw [e]; exact hne g hg
    · rw [e]
      intro e2
      injection e2 with e2
      have := (h.lt g hg).2
      omega
theorem tab_append {w w' : World} {base tb mb n : Nat} {r : Option Nat} {acc : List ByteArray} {v : Value} {xs : List Value} {o : Obj} {g : Nat} (ht : Tab w base tb mb r acc) (h : w.ownsRow base 9 1 v n xs) (hne : ∀ g, v.ownBlock = some g → r ≠ some g)
    (hg : (w.alloc o).grownBy w' v.ownBlock) (hat : v.ownBlock = some g ∨ g = (w.alloc o).heap.size) : Tab w' base tb mb r acc ∧ r ≠ some g := by
  obtain ⟨A, c, D, hb, _, _, hm, _⟩ := ht.go
  have n1 := own_blk_ne h hb (by decide)
  have n2 := own_map_ne h hm
  have hk : ∀ k, k < w.heap.size → some k ≠ v.ownBlock → w'.heap[k]? = w.heap[k]? := fun k hk hne => (hg.block k (by simp; omega) hne).trans (Below.heap_alloc w o k hk)
  refine ⟨ht.keep (hk _ ht.tb_lt fun e => n1 e.symm) (hk _ ht.mb_lt fun e => n2 e.symm) (fun k hr => hk k (ht.row_ge k hr).2 fun e => hne k e.symm hr), ?_⟩
  rcases hat with e | e
  · exact hne g e
  · intro e2
    have := (ht.row_ge g e2).2
    simp at e
    omega

set_option maxRecDepth 100000 in
set_option maxHeartbeats 3200000 in
theorem walk (w : World) (v : Value) (hv : IsStrs w v) (v1 : Value) (hv1 : IsStr v1) (v2 : Value) (hv2 : IsInt .i64 v2) :
    Calls Try.prog 6 #[v, v1, v2] w fun e w' => e = .returned (.bool true) ∧ Below w.heap.size w w' := by
  obtain ⟨A, n, c, ss, rfl, hr, hn, hsz, hnc⟩ := hv
  obtain ⟨ot, rfl, hot⟩ := hv1
  obtain ⟨x, rfl, hx⟩ := hv2
  have hlen : ss.length = n := by rw [← strs_length]; exact hr.1
  have HR := Lib.hid hr
  have HSZ := Lib.hid hsz
  have HS := Lib.hid (short_any (c := c) hr 60 hn hsz)
  have hot' := hot
  unfold maxLen at hot
  cases hb : shortB ss 60
  · rw [hb] at HS
    clear hr hsz hlen hb
    go_enter Try.func6, Try.ntmps6
    go_wp2_with (first | (go_at_call 13; refine HS.out.mono ?_; rintro e w1 ⟨rfl, rfl⟩) | (go_at_call 12; refine (awake_any _).mono ?_; rintro e w1 ⟨rfl, hb1⟩))
    go_ret
    exact ⟨rfl, hb1⟩
  rw [hb] at HS
  have hn60 : n ≤ 60 := by have := shortB_len hb; omega
  have HLEN := Lib.hid hlen
  by_cases ho : 200 < ot.size
  · clear hr hsz hlen hb
    go_enter Try.func6, Try.ntmps6
    go_wp2_with (first | (go_at_call 13; refine HS.out.mono ?_; rintro e w1 ⟨rfl, rfl⟩) | (go_at_call 12; refine (awake_any _).mono ?_; rintro e w1 ⟨rfl, hb1⟩))
    go_ret
    exact ⟨rfl, hb1⟩
  clear hr hsz hlen hb
  go_enter Try.func6, Try.ntmps6
  go_wp2_with fail
  refine HS.out.mono ?_
  rintro e w1 ⟨rfl, rfl⟩
  go_wp2_with fail
  refine (new_ok (ss := []) (A := none) (n := 0) (c := 0) RdS.none_ (by decide) (by simp) rfl).mono ?_
  rintro e w1 ⟨tb, mb, r, rfl, ht, hb1⟩
  have HB1 := Lib.hid hb1
  have HT1 := Lib.hid ht
  have HR1 := Lib.hid (HR.out.up hb1)
  have s1 := hb1.size
  clear hb1 ht
  go_wp2_with fail
  refine (len_any HT1.out).mono ?_
  rintro e w2 ⟨rfl, rfl⟩
  obtain ⟨i0, hi0, hz0, hz1, hz2⟩ := info_parts infoS
  go_wp2_with fail
  go_loopw [9, 10] (fun s9 i wr => ∃ (k : Nat) (acc : List ByteArray) (A9 : Option Addr) (c9 : Nat) (r3 : Option Nat), k ≤ n ∧ i = .int .i64 (k : Nat) ∧ s9 = .slice A9 acc.length c9 ∧ acc = accL [] (ss.take k) ∧ Tab wr w.heap.size tb mb r3 acc ∧
      wr.ownsRow w.heap.size 9 1 (.slice A9 acc.length c9) acc.length (strs acc) ∧ (∀ g, (Value.slice A9 acc.length c9).ownBlock = some g → r3 ≠ some g) ∧ Below w.heap.size w wr) (fun _ i _ => n - (intOf i).toNat)
  case atStart => exact ⟨0, [], none, 0, r, Nat.zero_le _, rfl, rfl, rfl, HT1.out, World.ownsRow_nil _ _ _ _, fun g hg => by simp [Value.ownBlock] at hg, HB1.out⟩
  case round =>
    obtain ⟨k, acc, A9, c9, r3, hk, rfl, rfl, hacc, htab, hrow, hne, hbel⟩ := hrel
    have HACC := Lib.hid hacc
    have HTAB := Lib.hid htab
    have HROW := Lib.hid hrow
    have HNE := Lib.hid hne
    have HBEL := Lib.hid hbel
    have hal : acc.length ≤ k := by
      have := accL_len (ss.take k) []
      rw [← hacc, List.length_take] at this
      simp at this
      omega
    clear hacc htab hrow hne hbel
    by_cases hlt : k < n
    · obtain ⟨b, o, u, rfl, hbw, hu, hcell⟩ := HR.out.at_ hlt
      obtain ⟨s, hs⟩ := at_lt (l := ss) (k := k) (by rw [HLEN.out]; exact hlt)
      rw [strs_at hs] at hu
      cases hu
      replace hcell := (HBEL.out.cell (p := ⟨b, o + k, none⟩) hbw).trans hcell
      have hsz := HSZ.out s (List.mem_of_getElem? hs)
      have HAT := Lib.hid (accL_take hs)
      clear hs
      rcases addE_cases acc s with ⟨ha, hv⟩ | ⟨ha, hv, hm2⟩ | ⟨ha, hv, hm2⟩
      · have HV := Lib.hid hv
        have HA := Lib.hid ha
        clear hv ha
        go_wp2_with fail
        refine (add_name hsz HV.out).mono ?_
        rintro e w3 ⟨rfl, rfl⟩
        go_wp2_with fail
        refine (rvalid_val HV.out _ hsz).mono ?_
        rintro e w3 ⟨rfl, rfl⟩
        go_wp2
        go_roundw
        case rel => exact ⟨k + 1, acc, A9, c9, r3, by omega, by go_num, rfl, by rw [HAT.out, ← HACC.out, if_neg (by rw [HA.out]; decide)], HTAB.out, HROW.out, HNE.out, HBEL.out⟩
        case measure => simp [intOf]; omega
      · have HV := Lib.hid hv
        have HA := Lib.hid ha
        clear hv ha
        go_wp2_with fail
        refine (add_twice HTAB.out hsz HV.out hm2).mono ?_
        rintro e w3 ⟨rfl, rfl⟩
        go_wp2_with fail
        refine (rvalid_val HV.out _ hsz).mono ?_
        rintro e w3 ⟨rfl, rfl⟩
        go_wp2
        go_roundw
        case rel => exact ⟨k + 1, acc, A9, c9, r3, by omega, by go_num, rfl, by rw [HAT.out, ← HACC.out, if_neg (by rw [HA.out]; decide)], HTAB.out, HROW.out, HNE.out, HBEL.out⟩
        case measure => simp [intOf]; omega
      · have HV := Lib.hid hv
        have HA := Lib.hid ha
        clear hv ha
        go_wp2_with fail
        refine (add_new HTAB.out hsz HV.out hm2 (by omega)).mono ?_
        rintro e w3 ⟨rfl, r4, ht4, hturn⟩
        have HT4 := Lib.hid ht4
        have hrt := row_turn HTAB.out HROW.out hturn HNE.out
        have HROW3 := Lib.hid hrt.1
        have HNE3 := Lib.hid hrt.2
        have hbl := HBEL.out.trans (hturn.below HTAB.out HBEL.out.size)
        have hcell3 := (hbl.cell (p := ⟨b, o + k, none⟩) hbw).trans ((HBEL.out.cell (p := ⟨b, o + k, none⟩) hbw).symm.trans hcell)
        have HB3 := Lib.hid hbl
        have z3 := hbl.size
        clear ht4 hturn hrt hbl hcell
        go_wp2_with fail
        refine (rvalid_val HV.out _ hsz).mono ?_
        rintro e w5 ⟨rfl, rfl⟩
        go_wp2_with (at_builtin; refine wpList_append_lies _ rfl (.tmp 79) (.tmp 84) 24 rfl w.heap.size 9 i0 (.string ⟨#[]⟩) 1 16 Try.underlying24 hi0 hz0 hz1 hz2 rfl (by decide) (.slice A9 acc.length c9) acc.length (strs acc) rfl (HROW3.out.alloc _) ⟨w3.heap.size, 0, none⟩ 1 1 [.string s] rfl rfl (cell_one_new _ _ _) (by intro u hu; simp at hu; subst hu; rfl) (by decide) (by unfold maxLen; omega) (by omega) (by simp; omega) _ rfl ?_; intro g cap w4 hown4 hg4 hat4 hlt4; have HO4 := Lib.hid hown4; have HG4 := Lib.hid hg4; have HAT4 := Lib.hid hat4; clear hown4 hg4 hat4)
        go_roundw
        case rel =>
          have hta := tab_append HT4.out HROW3.out HNE3.out HG4.out HAT4.out
          refine ⟨k + 1, acc ++ [s], some ⟨g, 0, none⟩, cap, r4, by omega, by go_num, by simp, by rw [HAT.out, ← HACC.out, if_pos HA.out], hta.1, ?_, ?_, ?_⟩
          · have h4 := HO4.out
            rw [← strs_snoc] at h4
            simpa using h4
          · intro g' hg'
            have : g' = g := by simp [Value.ownBlock] at hg'; exact hg'.symm
            subst this
            exact hta.2
          · exact Below.grown (HB3.out.alloc z3 _) HG4.out (by simp; omega) (fun j hj => (HROW3.out.lt j hj).1)
        case measure => simp [intOf]; omega
    · obtain rfl : k = n := by omega
      have hszA : Hid (∀ s ∈ acc, s.size ≤ maxLen) := Lib.hid (fun s hs => by
        rw [HACC.out] at hs
        rcases accL_mem _ _ _ hs with h1 | h1
        · simp at h1
        · exact HSZ.out s (List.mem_of_mem_take h1))
      clear HACC
      have HRD := Lib.hid (RdS.of_own HROW.out)
      go_wp2_with fail
      go_loop [13] (fun i => ∃ j : Nat, j ≤ acc.length ∧ i = .int .i64 (j : Nat)) (fun i => acc.length - (intOf i).toNat)
      case atStart => exact ⟨0, Nat.zero_le _, rfl⟩
      case round =>
        obtain ⟨j, hj, rfl⟩ := hrel
        by_cases hlt2 : j < acc.length
        · obtain ⟨b, o, u, rfl, hbw, hu, hcell⟩ := HRD.out.at_ hlt2
          obtain ⟨s, hs⟩ := at_lt (l := acc) (k := j) hlt2
          rw [strs_at hs] at hu
          cases hu
          have HSJ := Lib.hid hs
          have hszj := hszA.out s (List.mem_of_getElem? hs)
          have hbs := bytes_self s
          clear hs
          go_wp2_with fail
          refine (find_yes HTAB.out hszj HSJ.out).mono ?_
          rintro e w3 ⟨rfl, rfl⟩
          go_wp2_with fail
          refine (name_yes HTAB.out HSJ.out).mono ?_
          rintro e w3 ⟨rfl, rfl⟩
          go_wp2
          go_round
          case rel => exact ⟨j + 1, by omega, by go_num⟩
          case measure => simp [intOf]; omega
        · have hz := HBEL.out.size
          by_cases hmem : ot ∈ acc
          · obtain ⟨m, hm1, _⟩ := find_first hmem
            have HM := Lib.hid hm1
            have hbo := bytes_self ot
            clear hm1 hmem
            by_cases hin : 0 ≤ x ∧ x < (acc.length : Int)
            · obtain ⟨hx0, hx1⟩ := hin
              obtain ⟨xi, rfl⟩ := Int.eq_ofNat_of_zero_le hx0
              obtain ⟨s, hs⟩ := at_lt (l := acc) (k := xi) (by omega)
              have HSX := Lib.hid hs
              have hszx := hszA.out s (List.mem_of_getElem? hs)
              clear hs
              go_wp2_with fail
              refine (find_yes HTAB.out hot' HM.out).mono ?_
              rintro e w3 ⟨rfl, rfl⟩
              go_wp2_with fail
              refine (name_yes HTAB.out HSX.out).mono ?_
              rintro e w3 ⟨rfl, rfl⟩
              go_wp2_with fail
              refine (name_yes HTAB.out HM.out).mono ?_
              rintro e w3 ⟨rfl, rfl⟩
              go_wp2_with fail
              refine (find_yes HTAB.out hszx HSX.out).mono ?_
              rintro e w3 ⟨rfl, rfl⟩
              go_wp2_with fail
              refine (len_any HTAB.out).mono ?_
              rintro e w3 ⟨rfl, rfl⟩
              go_wp2_with fail
              refine (awake_any _).mono ?_
              rintro e w5 ⟨rfl, hb5⟩
              have HB5 := Lib.hid hb5
              clear hb5
              go_wp2
              go_ret
              exact ⟨rfl, HBEL.out.trans (HB5.out.mono hz)⟩
            · have hout : x < 0 ∨ (acc.length : Int) ≤ x := by omega
              have HOUT := Lib.hid hout
              rcases hout with h1 | h1
              all_goals
                clear hin
                go_wp2_with fail
                refine (find_yes HTAB.out hot' HM.out).mono ?_
                rintro e w3 ⟨rfl, rfl⟩
                go_wp2_with fail
                refine (name_no HTAB.out HOUT.out).mono ?_
                rintro e w3 ⟨rfl, rfl⟩
                go_wp2_with fail
                refine (name_yes HTAB.out HM.out).mono ?_
                rintro e w3 ⟨rfl, rfl⟩
                go_wp2_with fail
                refine (len_any HTAB.out).mono ?_
                rintro e w3 ⟨rfl, rfl⟩
                go_wp2_with fail
                refine (awake_any _).mono ?_
                rintro e w5 ⟨rfl, hb5⟩
                have HB5 := Lib.hid hb5
                clear hb5
                go_wp2
                go_ret
                exact ⟨ret_bool (by first | rfl | (simp; omega)), HBEL.out.trans (HB5.out.mono hz)⟩
          · have HM := Lib.hid hmem
            clear hmem
            by_cases hin : 0 ≤ x ∧ x < (acc.length : Int)
            · obtain ⟨hx0, hx1⟩ := hin
              obtain ⟨xi, rfl⟩ := Int.eq_ofNat_of_zero_le hx0
              obtain ⟨s, hs⟩ := at_lt (l := acc) (k := xi) (by omega)
              have HSX := Lib.hid hs
              have hszx := hszA.out s (List.mem_of_getElem? hs)
              clear hs
              go_wp2_with fail
              refine (find_no HTAB.out hot' HM.out).mono ?_
              rintro e w3 ⟨rfl, rfl⟩
              go_wp2_with fail
              refine (name_yes HTAB.out HSX.out).mono ?_
              rintro e w3 ⟨rfl, rfl⟩
              go_wp2_with fail
              refine (find_yes HTAB.out hszx HSX.out).mono ?_
              rintro e w3 ⟨rfl, rfl⟩
              go_wp2_with fail
              refine (len_any HTAB.out).mono ?_
              rintro e w3 ⟨rfl, rfl⟩
              go_wp2_with fail
              refine (awake_any _).mono ?_
              rintro e w5 ⟨rfl, hb5⟩
              have HB5 := Lib.hid hb5
              clear hb5
              go_wp2
              go_ret
              exact ⟨rfl, HBEL.out.trans (HB5.out.mono hz)⟩
            · have hout : x < 0 ∨ (acc.length : Int) ≤ x := by omega
              have HOUT := Lib.hid hout
              rcases hout with h1 | h1
              all_goals
                clear hin
                go_wp2_with fail
                refine (find_no HTAB.out hot' HM.out).mono ?_
                rintro e w3 ⟨rfl, rfl⟩
                go_wp2_with fail
                refine (name_no HTAB.out HOUT.out).mono ?_
                rintro e w3 ⟨rfl, rfl⟩
                go_wp2_with fail
                refine (len_any HTAB.out).mono ?_
                rintro e w3 ⟨rfl, rfl⟩
                go_wp2_with fail
                refine (awake_any _).mono ?_
                rintro e w5 ⟨rfl, hb5⟩
                have HB5 := Lib.hid hb5
                clear hb5
                go_wp2
                go_ret
                exact ⟨ret_bool (by first | rfl | (simp; omega)), HBEL.out.trans (HB5.out.mono hz)⟩

theorem own : ownKnob Try.prog.godebug = none := by kernel_rfl
theorem laidOut : laidOutB Try.prog = true := by kernel_rfl
set_option maxRecDepth 100000 in
theorem lifted (os : Os) (started : os.Started) (H : Type) (enc : TypeId × Value → H) :
    ReturnsInHanded {} Try.checked os 6 .any (Rows.identTableSpec.pre6 enc Try.prog Try.f6 Rows.identTableRow.domain false) (Rows.identTableSpec.post enc Try.prog Try.f6 false true false false) := by
  refine returnsInHanded_of_change (C := Try.checked) own started (by kernel_rfl) Try.func6
    (ChangeSpec.witness6 (enc := enc) (C := Try.checked) false ⟨#[], #[.slice none 0 0, .string ⟨#[]⟩, .int .i64 0], []⟩ 8 (by kernel_rfl) (by kernel_rfl) (by kernel_rfl) (by kernel_rfl)) ?_
  intro W base args ds gs before hval0 hW hcnd _
  have hval : ∀ (j : Nat) t v, Try.f6.params[j]? = some t → args[j]? = some v → Value.okWide Try.prog W .any base t v := hval0
  have hW' := hW
  obtain ⟨p, q, hA0, hV, rfl, hfz, hnd⟩ := hW
  have hA : DataW.TrodAll enc Try.prog W 0 (fun _ => true) true Try.f6.params.toList args.toList ds p := hA0
  rw [Try.params6] at hA hval
  obtain ⟨v0, vs0, d0, ds0, p0, q0, hargs, rfl, rfl, h0, r0⟩ := trodAll_cons hA
  obtain ⟨v1, vs1, d1, ds1, p1, q1, rfl, rfl, rfl, h1, r1⟩ := trodAll_cons r0
  obtain ⟨v2, vs2, d2, ds2, p2, q2, rfl, rfl, rfl, h2, r2⟩ := trodAll_cons r1
  obtain ⟨rfl, rfl, rfl⟩ := trodAll_nil r2
  obtain rfl : args = #[v0, v1, v2] := by cases args; simp_all
  obtain ⟨rfl, rfl⟩ := trodVars_none hV
  have k0 := h0
  have lt0 : ∀ x ∈ p0, x.block < W.heap.size := by obtain ⟨m, hm⟩ := k0; exact DataW.trod_lt m _ _ _ hm
  have O0 := open_strs W (hval 0 24 v0 rfl rfl) h0
  have k1 := h1
  have lt1 : ∀ x ∈ p1, x.block < W.heap.size := by obtain ⟨m, hm⟩ := k1; exact DataW.trod_lt m _ _ _ hm
  have O1 := open_string W (hval 1 9 v1 rfl rfl) h1
  have k2 := h2
  have lt2 : ∀ x ∈ p2, x.block < W.heap.size := by obtain ⟨m, hm⟩ := k2; exact DataW.trod_lt m _ _ _ hm
  have O2 := open_int W (hval 2 3 v2 rfl rfl) h2
  clear hA0 hval0
  refine (walk W v0 O0 v1 O1 v2 O2).mono fun e W' ⟨he, bel⟩ => ?_
  subst he
  exact ⟨_, rfl, _, _, _, [], _, [], hW', trodAll_mk1 (shut_bool Try.underlying4 _), (trodAll_cons_mk (Below.trod laidOut (by kernel_rfl) (of_decide_eq_true (by kernel_rfl)) k0 bel lt0) (trodAll_cons_mk (Below.trod laidOut (by kernel_rfl) (of_decide_eq_true (by kernel_rfl)) k1 bel lt1) (trodAll_cons_mk (Below.trod laidOut (by kernel_rfl) (of_decide_eq_true (by kernel_rfl)) k2 bel lt2) trodAll_mk0))), rfl, bel.frame _, fun h => by cases h⟩
theorem over : Rows.identTableRow.holds Try.pinned (OpenSpec.ofChange Rows.identTableSpec) :=
  OpenClaim.holds_of_wide 6 Try.f6 rfl rfl rfl rfl rfl rfl rfl ⟨rfl, rfl, rfl, rfl, rfl⟩ rfl rfl rfl rfl rfl (by kernel_rfl) Try.func6 (by kernel_rfl)
    (of_decide_eq_true (by kernel_rfl)) (by unfold Func.isWrapper; first | (rw [if_pos (by decide +kernel)]; kernel_rfl) | (rw [if_neg (by decide +kernel)]; exact ⟨rfl, rfl⟩))
    (fun os started H enc _ => lifted os started H enc)
theorem proved : Rows.IdentTableSaid := over
#print axioms proved

end Go.Proofs.Ytonlalfdpggioaa.identTable
