/- IdentPlays: what each of at most 60 calls on a table returns, and the table after it, as the reference has it. No condition. -/
import Derived.Test.YtonlalfdpggioaaPlays
import Derived.Test.YtonlalfdpggioaaOpen
import Derived.Test.YtonlalfdpggioaaSlices
import Derived.Deep.CutBlock
import Derived.Deep.RegionWith
import Derived.Deep.DeepCutAuto
namespace Go.Proofs.Ytonlalfdpggioaa.identPlays
open Go.ChangeShapes Go.WideShapes Go.ChangeAt Go.RowKit Go.Maps
set_option linter.unusedVariables false

structure OpR where
  kind : Int
  num : Int
  str : ByteArray
def opCells (x : OpR) : List Value := [.int .i64 x.kind, .int .i64 x.num, .string x.str]
def opOk (x : OpR) : Prop := (Lit.int .i64 x.kind).wf = true ∧ (Lit.int .i64 x.num).wf = true ∧ x.str.size ≤ maxLen
def IsOps (W : World) (v : Value) : Prop := ∃ A n c L, v = .slice A n c ∧ RdT W (· < W.heap.size) 3 opCells A n L ∧ n ≤ maxLen ∧ n ≤ c ∧ ∀ x ∈ L, opOk x
section
variable {H : Type} {enc : TypeId × Value → H} {base b0 : Nat} {v : Value} {d : DataW H} {p : List MemPlace} {r : Reach}
theorem open_ops (W : World) (hv : Value.okWide Try.prog W r b0 36 v) (h : DataW.Trod enc Try.prog W 0 (fun _ => true) true 36 v d p) : IsOps W v :=
  open_rows (k := 4) (ls := [3, 3, 9]) Try.underlying36 (by kernel_rfl) (by kernel_rfl) (by decide) opCells opOk (fun _ => rfl) (fun us hus hl => by
    match us, hus with
    | [u0, u1, u2], _ =>
      obtain ⟨x0, e0, f0⟩ := hl 0 _ rfl
      obtain ⟨x1, e1, f1⟩ := hl 1 _ rfl
      obtain ⟨x2, e2, f2⟩ := hl 2 _ rfl
      simp at e0 e1 e2
      subst e0; subst e1; subst e2
      obtain ⟨y0, rfl, g0⟩ := f0.int Try.underlying3
      obtain ⟨y1, rfl, g1⟩ := f1.int Try.underlying3
      obtain ⟨y2, rfl, g2⟩ := f2.str Try.underlying9
      exact ⟨⟨y0, y1, y2⟩, rfl, g0, g1, g2⟩) hv h
end

set_option maxRecDepth 100000 in
set_option maxHeartbeats 3200000 in
theorem walk (w : World) (v : Value) (hv : IsStrs w v) (v1 : Value) (hv1 : IsOps w v1) :
    Calls Try.prog 5 #[v, v1] w fun e w' => e = .returned (.bool true) ∧ Below w.heap.size w w' := by
  obtain ⟨A, n, c, ss, rfl, hr, hn, hsz, hnc⟩ := hv
  obtain ⟨Ao, m, co, L, rfl, hro, hm, hmc, hok⟩ := hv1
  have hlen : ss.length = n := by rw [← strs_length]; exact hr.1
  have HR := Lib.hid hr
  have HSZ := Lib.hid hsz
  have HS := Lib.hid (short_any (c := c) hr 60 hn hsz)
  have HRO := Lib.hid hro
  have HOK := Lib.hid hok
  unfold maxLen at hm
  cases hb : shortB ss 60
  · rw [hb] at HS
    clear hr hsz hlen hb hro hok
    go_enter Try.func5, Try.ntmps5
    go_wp2_with (first | (go_at_call 13; refine HS.out.mono ?_; rintro e w1 ⟨rfl, rfl⟩) | (go_at_call 12; refine (awake_any _).mono ?_; rintro e w1 ⟨rfl, hb1⟩))
    go_ret
    exact ⟨rfl, hb1⟩
  rw [hb] at HS
  have hn60 : n ≤ 60 := by have := shortB_len hb; omega
  have HLEN := Lib.hid hlen
  by_cases ho : 60 < m
  · clear hr hsz hlen hb hro hok
    go_enter Try.func5, Try.ntmps5
    go_wp2_with (first | (go_at_call 13; refine HS.out.mono ?_; rintro e w1 ⟨rfl, rfl⟩) | (go_at_call 12; refine (awake_any _).mono ?_; rintro e w1 ⟨rfl, hb1⟩))
    go_ret
    exact ⟨rfl, hb1⟩
  by_cases hE : newE [] ss = 0
  · have HE := Lib.hid hE
    clear hr hsz hlen hb hE hro hok
    go_enter Try.func5, Try.ntmps5
    go_wp2_with fail
    refine HS.out.mono ?_
    rintro e w1 ⟨rfl, rfl⟩
    go_wp2_with fail
    refine (new_ok HR.out (by omega) HSZ.out HE.out).mono ?_
    rintro e w1 ⟨tb, mb, r, rfl, ht, hb1⟩
    have HB1 := Lib.hid hb1
    have HR1 := Lib.hid (HR.out.up hb1)
    have s1 := hb1.size
    have t1 := ht.tb_lt
    have t2 := ht.mb_lt
    have HRG := Lib.hid ht.row_ge
    clear hb1
    go_wp2_with fail
    refine (rnew_ok HR1.out (by omega) HSZ.out HE.out).mono ?_
    rintro e w2 ⟨A', c', rfl, hst, hb2⟩
    have s2 := hb2.size
    have HB2 := Lib.hid (HB1.out.trans (hb2.mono (by omega)))
    have HT2 := Lib.hid ((ht.grow hb2).grow ((Below.refl _ _).alloc (Nat.le_refl _) (.cells #[.slice A' ss.length c'] 31)))
    have HST := Lib.hid ((StD.of_st (tb := tb) (mb := mb) (r := r) (sb := w2.heap.size) hst t1 t2 (.inr (Nat.le_refl _)) fun k hk => (HRG.out k hk).2).grow ((Below.refl _ _).alloc (Nat.le_refl _) (.cells #[.slice A' ss.length c'] 31)))
    have HKB := Lib.hid (Blk.new w2 31 #[.slice A' ss.length c'])
    clear hb2 ht hst
    have HP0 : Hid (PSt w (w2.alloc (.cells #[.slice A' ss.length c'] 31)) tb mb w2.heap.size 60) := Lib.hid ⟨ss, A', c', r, HT2.out, HKB.out, HST.out, HSZ.out, by rw [HLEN.out]; omega, HB2.out.alloc (by omega) _⟩
    have hsb : w.heap.size ≤ w2.heap.size := by omega
    clear HT2 HST HKB HB2
    go_wp2_with fail
    generalize w2.heap.size = sb at *
    generalize hW : w2.alloc (.cells #[.slice A' ss.length c'] 31) = W at *
    clear hW
    go_loopw [9] (fun i wr => ∃ k : Nat, k ≤ m ∧ i = .int .i64 (k : Nat) ∧ PSt w wr tb mb sb (60 + k)) (fun i _ => m - (intOf i).toNat)
    case atStart => exact ⟨0, Nat.zero_le _, rfl, HP0.out⟩
    case round =>
      obtain ⟨k, hk, rfl, hP⟩ := hrel
      have HP := Lib.hid hP
      clear hP
      by_cases hlt : k < m
      · obtain ⟨acc, A9, c9, r3, htab, hkb, hstd, hsza, hlen9, hbel⟩ := HP.out
        have HTAB := Lib.hid htab
        have HKB := Lib.hid hkb
        have HSTD := Lib.hid hstd
        have HSZA := Lib.hid hsza
        have HBEL := Lib.hid hbel
        clear htab hkb hstd hsza hbel
        obtain ⟨b, o, rfl, hbw, hco⟩ := HRO.out.2 (by omega)
        obtain ⟨x, hx⟩ := at_lt (l := L) (k := k) (by rw [HRO.out.1]; exact hlt)
        have q0 : wr.cell? ⟨b, o + k * 3, none⟩ = some (.int .i64 x.kind) := (HBEL.out.cell (p := ⟨b, o + k * 3, none⟩) hbw).trans (hco k x hx 0 _ rfl)
        have q1 : wr.cell? ⟨b, o + k * 3 + 1, none⟩ = some (.int .i64 x.num) := by rw [Nat.add_assoc]; exact (HBEL.out.cell (p := ⟨b, o + (k * 3 + 1), none⟩) hbw).trans (hco k x hx 1 _ rfl)
        have q2 : wr.cell? ⟨b, o + k * 3 + 2, none⟩ = some (.string x.str) := by rw [Nat.add_assoc]; exact (HBEL.out.cell (p := ⟨b, o + (k * 3 + 2), none⟩) hbw).trans (hco k x hx 2 _ rfl)
        obtain ⟨ok0, ok1, ok2⟩ := HOK.out x (List.mem_of_getElem? hx)
        clear hco hx HP
        obtain ⟨kind, num, str⟩ := x
        simp only at q0 q1 q2 ok0 ok1 ok2
        have ok2' := ok2
        unfold maxLen at ok2'
        by_cases hs200 : 200 < str.size
        · go_wp2_with fail
          refine (awake_any _).mono ?_
          rintro e w5 ⟨rfl, hb5⟩
          have HB5 := Lib.hid hb5
          clear hb5
          go_wp2
          go_ret
          exact ⟨rfl, HBEL.out.trans (HB5.out.mono HBEL.out.size)⟩
        · have kb0 := HKB.out.cell 0
          simp at kb0
          have hbr : b < wr.heap.size := Nat.lt_of_lt_of_le hbw HBEL.out.size
          have hsbr := HKB.out.lt
          go_upto_block 2 with fail
          go_cut [] (fun wx => PSt w wx tb mb sb (60 + (k + 1)))
          case first =>
            by_cases h0 : kind = 0
            · subst h0
              clear q0 q1 kb0
              go_wp2_with fail
              refine (add_any HTAB.out ok2 (by omega)).mono ?_
              rintro e wa ⟨ma, ra, rfl, hma, hta, htu⟩
              have HMA := Lib.hid hma
              have HTA := Lib.hid hta
              have HBA := Lib.hid (htu.below HTAB.out HBEL.out.size)
              have HDA := Lib.hid (StD.turn HSTD.out htu)
              obtain ⟨n1, n2, n3⟩ := Tab.apart HTAB.out HKB.out (by decide) (by decide)
              have HKA := Lib.hid (HKB.out.keep (htu.block sb hsbr n1 n2 n3))
              have hta1 := hta.tb_lt
              have hta2 := hta.mb_lt
              have HRA := Lib.hid (fun k hk => (hta.row_ge k hk).2)
              have hsba := HKA.out.lt
              have za := HBA.out.size
              have hcell : wa.cell? ⟨b, o + k * 3 + 2, none⟩ = some (.string str) := (HBA.out.cell (p := ⟨b, o + k * 3 + 2, none⟩) hbw).trans q2
              have hba : b < wa.heap.size := by omega
              have hcell2 := (World.cell?_alloc_lt wa (.cells #[.slice none 0 0] 31) ⟨b, o + k * 3 + 2, none⟩ hba).trans hcell
              have kb1 := HKA.out.cell 0
              have kb2 := (HKA.out.alloc (.cells #[.slice none 0 0] 31)).cell 0
              simp at kb1 kb2
              clear hma hta htu n1 n2 n3 q2
              have HSTA : Hid (∀ W : World, W = wa ∨ W = wa.alloc (.cells #[.slice none 0 0] 31) → StIs W 0 A9 acc.length acc) := Lib.hid (fun W hW => by
                rcases hW with rfl | rfl
                · exact StD.st HDA.out
                · exact (StD.st HDA.out).grow ((Below.refl _ _).alloc (Nat.le_refl _) _))
              have hl1 : acc.length ≤ 1099511627776 := by omega
              go_wp2_with fail
              go_upto_region 17 with fail
              go_cut [12, 13, 14] (fun s12 s13 s14 wx => ∃ g6 A7 c7 m7, s12 = .pointer (some ⟨g6, 0, none⟩) ∧ s13 = .int .i64 m7 ∧ s14 = .int .i64 (addE acc str) ∧ PMeet wa wx tb mb sb ra acc str g6 A7 c7 m7)
              case first =>
                go_region_with (go_at_call 18; refine (radd_any (by first | exact HSTA.out wa (.inl rfl) | exact HSTA.out (wa.alloc (.cells #[.slice none 0 0] 31)) (.inr rfl)) hl1 ok2).mono ?_; rintro e w7 ⟨A7, n7, c7, m7, rfl, hadd, hb7⟩; have f1 := hb7.cell (p := ⟨wa.heap.size, 0, none⟩); have f2 := hb7.frozen (p := ⟨wa.heap.size, 0, none⟩); simp at f1; simp at f2; have HX := Lib.hid hb7; have HADD := Lib.hid hadd; clear hb7 hadd)
                all_goals (go_wp2_with fail; go_meet)
                all_goals first | exact ⟨_, _, _, _, rfl, rfl, rfl, (pm1 HDA.out hta1 hta2 hsba HRA.out HX.out HADD.out).2⟩ | exact ⟨_, _, _, _, rfl, rfl, rfl, (pm2 HDA.out hta1 hta2 hsba HRA.out HX.out HADD.out).2⟩
              case rest =>
                obtain ⟨g6, A7, c7, m7, rfl, rfl, rfl, hbx, kx, hdx, hax⟩ := hcut
                have em := AddIs.same HMA.out hax
                subst em
                have cx := kx.cell 0
                simp at cx
                have ks := HKA.out.grow hbx
                have cs := ks.cell 0
                have fs := ks.frozen 0
                simp at cs
                have HBX := Lib.hid hbx
                have HKS := Lib.hid ks
                have HDX := Lib.hid hdx
                clear hbx kx hdx hax ks hcell hcell2 kb1 kb2
                go_wp2_with fail
                go_meet
                have hT := HTA.out.grow HBX.out
                refine ⟨addL acc str, A7, c7, ra, Tab.far hT HKS.out (by decide) (by decide) _, by simpa using HKS.out.set_ 0 (.slice A7 (addL acc str).length c7), StD.far HDX.out _, fun t ht => ?_, ?_, ?_⟩
                · rcases addL_mem ht with h | h
                  · exact HSZA.out t h
                  · rw [h]; exact ok2
                · have := addL_len acc str; omega
                · exact (HBEL.out.trans (HBA.out.trans (HBX.out.mono (by omega)))).setCell hsb _
            · have n0 : (kind == 0) = false := beq_eq_false_iff_ne.2 h0
              by_cases h1 : kind = 1
              · subst h1
                have hl1 : acc.length ≤ 1099511627776 := by omega
                have HST9 := Lib.hid (StD.st HSTD.out).rd
                by_cases hmem : str ∈ acc
                · obtain ⟨mi, hm1, hm2⟩ := find_first hmem
                  have HM1 := Lib.hid hm1
                  have HM2 := Lib.hid hm2
                  clear hm1 hm2 hmem
                  go_wp2_with fail
                  refine (find_yes HTAB.out ok2 HM1.out).mono ?_
                  rintro e wz ⟨rfl, rfl⟩
                  go_wp2_with fail
                  go_upto_region 23 with fail
                  go_cut [17, 18] (fun s1 s2 wx => s1 = .int .i64 (mi : Int) ∧ s2 = .bool true ∧ Below wr.heap.size wr wx)
                  case first =>
                    go_region_with (go_at_call 20; refine (rfind_yes (l := acc) (by exact HST9.out) hl1 HM1.out HM2.out).mono ?_; rintro e w7 ⟨rfl, hb7⟩; have HX := Lib.hid hb7; clear hb7)
                    all_goals (go_wp2_with fail; go_meet)
                    all_goals exact ⟨rfl, rfl, undrew HX.out⟩
                  case rest =>
                    obtain ⟨rfl, rfl, hbx⟩ := hcut
                    have HBX := Lib.hid hbx
                    clear hbx q0 q1 q2 kb0
                    go_wp2_with fail
                    go_meet
                    exact PSt.grow HTAB.out HKB.out HSTD.out HSZA.out hlen9 HBEL.out HBX.out (by omega)
                · have HM1 := Lib.hid hmem
                  clear hmem
                  go_wp2_with fail
                  refine (find_no HTAB.out ok2 HM1.out).mono ?_
                  rintro e wz ⟨rfl, rfl⟩
                  go_wp2_with fail
                  go_upto_region 23 with fail
                  go_cut [17, 18] (fun s1 s2 wx => s1 = .int .i64 0 ∧ s2 = .bool false ∧ Below wr.heap.size wr wx)
                  case first =>
                    go_region_with (go_at_call 20; refine (rfind_no (l := acc) (by exact HST9.out) hl1 HM1.out).mono ?_; rintro e w7 ⟨rfl, hb7⟩; have HX := Lib.hid hb7; clear hb7)
                    all_goals (go_wp2_with fail; go_meet)
                    all_goals exact ⟨rfl, rfl, undrew HX.out⟩
                  case rest =>
                    obtain ⟨rfl, rfl, hbx⟩ := hcut
                    have HBX := Lib.hid hbx
                    clear hbx q0 q1 q2 kb0
                    go_wp2_with fail
                    go_meet
                    exact PSt.grow HTAB.out HKB.out HSTD.out HSZA.out hlen9 HBEL.out HBX.out (by omega)
              · have n1 : (kind == 1) = false := beq_eq_false_iff_ne.2 h1
                by_cases h2 : kind = 2
                · subst h2
                  have hl1 : acc.length ≤ 1099511627776 := by omega
                  have HST9 := Lib.hid (StD.st HSTD.out).rd
                  by_cases hin : 0 ≤ num ∧ num < (acc.length : Int)
                  · obtain ⟨hx0, hx1⟩ := hin
                    obtain ⟨xi, rfl⟩ := Int.eq_ofNat_of_zero_le hx0
                    obtain ⟨s, hs⟩ := at_lt (l := acc) (k := xi) (by omega)
                    have HSX := Lib.hid hs
                    have hbs := bytes_self s
                    clear hs
                    go_wp2_with fail
                    refine (name_yes HTAB.out HSX.out).mono ?_
                    rintro e wz ⟨rfl, rfl⟩
                    go_wp2_with fail
                    go_upto_region 28 with fail
                    go_cut [21, 22] (fun s1 s2 wx => s1 = .string s ∧ s2 = .bool true ∧ Below wr.heap.size wr wx)
                    case first =>
                      go_region_with (go_at_call 22; refine (rname_yes (l := acc) (by exact HST9.out) hl1 HSX.out).mono ?_; rintro e w7 ⟨rfl, hb7⟩; have HX := Lib.hid hb7; clear hb7)
                      all_goals (go_wp2_with fail; go_meet)
                      all_goals exact ⟨rfl, rfl, undrew HX.out⟩
                    case rest =>
                      obtain ⟨rfl, rfl, hbx⟩ := hcut
                      have HBX := Lib.hid hbx
                      clear hbx q0 q1 q2 kb0
                      go_wp2_with fail
                      go_meet
                      exact PSt.grow HTAB.out HKB.out HSTD.out HSZA.out hlen9 HBEL.out HBX.out (by omega)
                  · have HOUT : Hid (num < 0 ∨ (acc.length : Int) ≤ num) := Lib.hid (by omega)
                    clear hin
                    go_wp2_with fail
                    refine (name_no HTAB.out HOUT.out).mono ?_
                    rintro e wz ⟨rfl, rfl⟩
                    go_wp2_with fail
                    go_upto_region 28 with fail
                    go_cut [21, 22] (fun s1 s2 wx => s1 = .string ⟨#[]⟩ ∧ s2 = .bool false ∧ Below wr.heap.size wr wx)
                    case first =>
                      go_region_with (go_at_call 22; refine (rname_no (A := A9) (c := c9) hl1 HOUT.out).mono ?_; rintro e w7 ⟨rfl, hb7⟩; have HX := Lib.hid hb7; clear hb7)
                      all_goals (go_wp2_with fail; go_meet)
                      all_goals exact ⟨rfl, rfl, undrew HX.out⟩
                    case rest =>
                      obtain ⟨rfl, rfl, hbx⟩ := hcut
                      have HBX := Lib.hid hbx
                      clear hbx q0 q1 q2 kb0
                      go_wp2_with fail
                      go_meet
                      exact PSt.grow HTAB.out HKB.out HSTD.out HSZA.out hlen9 HBEL.out HBX.out (by omega)
                · have n2 : (kind == 2) = false := beq_eq_false_iff_ne.2 h2
                  clear h0 h1 h2
                  go_wp2_with fail
                  go_meet
                  exact ⟨acc, A9, c9, r3, HTAB.out, HKB.out, HSTD.out, HSZA.out, by omega, HBEL.out⟩
          case rest =>
            obtain ⟨acc', A8, c8, r8, htab, hkb, hstd, hsza, hlen8, hbel⟩ := hcut
            have HT := Lib.hid htab
            have HK := Lib.hid hkb
            have HD := Lib.hid hstd
            have HZ := Lib.hid hsza
            have HB := Lib.hid hbel
            have cc := hkb.cell 0
            simp at cc
            clear htab hkb hstd hsza hbel HTAB HKB HSTD HSZA HBEL q0 q1 q2 kb0
            go_wp2_with fail
            refine (same_any HT.out HD.out.st (by omega) HZ.out).mono ?_
            rintro e w6 ⟨rfl, hb6⟩
            have HB6 := Lib.hid hb6
            clear hb6
            go_wp2
            go_roundw
            case rel => exact ⟨k + 1, by omega, by go_num, acc', A8, c8, r8, HT.out.grow HB6.out, HK.out.grow HB6.out, StD.grow HD.out HB6.out, HZ.out, by omega, HB.out.trans (HB6.out.mono HB.out.size)⟩
            case measure => simp [intOf]; omega
      · obtain ⟨acc, A9, c9, r3, htab, hkb, hstd, hsza, hlen9, hbel⟩ := HP.out
        have HBEL := Lib.hid hbel
        clear htab hkb hstd hsza hbel HP
        go_wp2_with fail
        refine (awake_any _).mono ?_
        rintro e w5 ⟨rfl, hb5⟩
        have HB5 := Lib.hid hb5
        clear hb5
        go_wp2
        go_ret
        exact ⟨rfl, HBEL.out.trans (HB5.out.mono HBEL.out.size)⟩
  · have HE := Lib.hid hE
    have hne : (newE [] ss != 0) = true := by rw [bne_iff_ne]; exact hE
    generalize hg : newE [] ss = E at *
    clear hr hsz hlen hb hE hro hok
    go_enter Try.func5, Try.ntmps5
    go_wp2_with fail
    refine HS.out.mono ?_
    rintro e w1 ⟨rfl, rfl⟩
    go_wp2_with fail
    refine (new_err HR.out (by omega) HSZ.out (by rw [hg]; exact HE.out)).mono ?_
    rw [hg]
    rintro e w1 ⟨rfl, hb1⟩
    have HB1 := Lib.hid hb1
    have HR1 := Lib.hid (HR.out.up hb1)
    clear hb1
    go_wp2_with fail
    refine (rnew_err HR1.out (by omega) HSZ.out (by rw [hg]; exact HE.out)).mono ?_
    rw [hg]
    rintro e w2 ⟨rfl, hb2⟩
    have HB2 := Lib.hid hb2
    clear hb2
    go_wp2_with fail
    refine (awake_any _).mono ?_
    rintro e w5 ⟨rfl, hb5⟩
    have HB5 := Lib.hid hb5
    clear hb5
    go_wp2
    go_ret
    have s1 := HB1.out.size
    have s2 := HB2.out.size
    exact ⟨rfl, HB1.out.trans ((HB2.out.mono (by omega)).trans (((Below.refl _ _).alloc (by omega) _).trans (HB5.out.mono (by simp; omega))))⟩

theorem own : ownKnob Try.prog.godebug = none := by kernel_rfl
theorem laidOut : laidOutB Try.prog = true := by kernel_rfl
set_option maxRecDepth 100000 in
theorem lifted (os : Os) (started : os.Started) (H : Type) (enc : TypeId × Value → H) :
    ReturnsInHanded {} Try.checked os 5 .any (Rows.identPlaysSpec.pre6 enc Try.prog Try.f5 Rows.identPlaysRow.domain false) (Rows.identPlaysSpec.post enc Try.prog Try.f5 false true false false) := by
  refine returnsInHanded_of_change (C := Try.checked) own started (by kernel_rfl) Try.func5
    (ChangeSpec.witness6 (enc := enc) (C := Try.checked) false ⟨#[], #[.slice none 0 0, .slice none 0 0], []⟩ 8 (by kernel_rfl) (by kernel_rfl) (by kernel_rfl) (by kernel_rfl)) ?_
  intro W base args ds gs before hval0 hW hcnd _
  have hval : ∀ (j : Nat) t v, Try.f5.params[j]? = some t → args[j]? = some v → Value.okWide Try.prog W .any base t v := hval0
  have hW' := hW
  obtain ⟨p, q, hA0, hV, rfl, hfz, hnd⟩ := hW
  have hA : DataW.TrodAll enc Try.prog W 0 (fun _ => true) true Try.f5.params.toList args.toList ds p := hA0
  rw [Try.params5] at hA hval
  obtain ⟨v0, vs0, d0, ds0, p0, q0, hargs, rfl, rfl, h0, r0⟩ := trodAll_cons hA
  obtain ⟨v1, vs1, d1, ds1, p1, q1, rfl, rfl, rfl, h1, r1⟩ := trodAll_cons r0
  obtain ⟨rfl, rfl, rfl⟩ := trodAll_nil r1
  obtain rfl : args = #[v0, v1] := by cases args; simp_all
  obtain ⟨rfl, rfl⟩ := trodVars_none hV
  have k0 := h0
  have lt0 : ∀ x ∈ p0, x.block < W.heap.size := by obtain ⟨m, hm⟩ := k0; exact DataW.trod_lt m _ _ _ hm
  have O0 := open_strs W (hval 0 24 v0 rfl rfl) h0
  have k1 := h1
  have lt1 : ∀ x ∈ p1, x.block < W.heap.size := by obtain ⟨m, hm⟩ := k1; exact DataW.trod_lt m _ _ _ hm
  have O1 := open_ops W (hval 1 36 v1 rfl rfl) h1
  clear hA0 hval0
  refine (walk W v0 O0 v1 O1).mono fun e W' ⟨he, bel⟩ => ?_
  subst he
  exact ⟨_, rfl, _, _, _, [], _, [], hW', trodAll_mk1 (shut_bool Try.underlying4 _), (trodAll_cons_mk (Below.trod laidOut (by kernel_rfl) (of_decide_eq_true (by kernel_rfl)) k0 bel lt0) (trodAll_cons_mk (Below.trod laidOut (by kernel_rfl) (of_decide_eq_true (by kernel_rfl)) k1 bel lt1) trodAll_mk0)), rfl, bel.frame _, fun h => by cases h⟩
theorem over : Rows.identPlaysRow.holds Try.pinned (OpenSpec.ofChange Rows.identPlaysSpec) :=
  OpenClaim.holds_of_wide 5 Try.f5 rfl rfl rfl rfl rfl rfl rfl ⟨rfl, rfl, rfl, rfl, rfl⟩ rfl rfl rfl rfl rfl (by kernel_rfl) Try.func5 (by kernel_rfl)
    (of_decide_eq_true (by kernel_rfl)) (by unfold Func.isWrapper; first | (rw [if_pos (by decide +kernel)]; kernel_rfl) | (rw [if_neg (by decide +kernel)]; exact ⟨rfl, rfl⟩))
    (fun os started H enc _ => lifted os started H enc)
theorem proved : Rows.IdentPlaysSaid := over
#print axioms proved

end Go.Proofs.Ytonlalfdpggioaa.identPlays
