/- A contract of the law's helper 'same': a table and a state of the reference that have the same identifiers are found to be the same. -/
import Derived.Test.YtonlalfdpggioaaRnew
import Derived.Deep.QuietTactic
import Derived.BigQuiet
namespace Go.Proofs.Ytonlalfdpggioaa
open Go.RowKit Go.Maps

theorem rnew_ok {w : World} {A : Option Addr} {n c : Nat} {ss : List ByteArray} (h : RdS w (· < w.heap.size) A n (strs ss)) (hn : n ≤ 1099511627776) (hsz : ∀ s ∈ ss, s.size ≤ maxLen) (hE : newE [] ss = 0) :
    Calls Try.prog 15 #[.slice A n c] w fun e w' => ∃ A' c', e = .returned (.tuple #[.agg #[.slice A' ss.length c'], .int .i64 0]) ∧ StIs w' w.heap.size A' ss.length ss ∧ Below w.heap.size w w' :=
  (rnew_any h hn hsz).mono fun e w' ⟨hb, hp⟩ => by
    rcases hp with ⟨_, A', c', he, hs⟩ | ⟨h0, _⟩
    · exact ⟨A', c', he, hs, hb⟩
    · exact absurd hE h0
theorem rnew_err {w : World} {A : Option Addr} {n c : Nat} {ss : List ByteArray} (h : RdS w (· < w.heap.size) A n (strs ss)) (hn : n ≤ 1099511627776) (hsz : ∀ s ∈ ss, s.size ≤ maxLen) (hE : newE [] ss ≠ 0) :
    Calls Try.prog 15 #[.slice A n c] w fun e w' => e = .returned (.tuple #[.agg #[.slice none 0 0], .int .i64 (newE [] ss)]) ∧ Below w.heap.size w w' :=
  (rnew_any h hn hsz).mono fun e w' ⟨hb, hp⟩ => by
    rcases hp with ⟨h0, _⟩ | ⟨_, he⟩
    · exact absurd h0 hE
    · exact ⟨he, hb⟩

theorem shortB_len {ss : List ByteArray} {m : Int} (h : shortB ss m = true) : (ss.length : Int) ≤ m := by
  simp [shortB] at h; exact h.1

section
variable {w : World} {base tb mb : Nat} {r : Option Nat} {l : List ByteArray}
theorem len_q (h : Tab w base tb mb r l) : Calls Try.prog 23 #[.pointer (some ⟨tb, 0, none⟩)] w fun e w' => e = .returned (.int .i64 (l.length : Int)) ∧ w' = w :=
  (len_any h).mono fun _ _ ⟨he, hw⟩ => ⟨he, hw.symm⟩
theorem Tab.drewN (h : Tab w base tb mb r l) (n : Nat) : Tab (w.drewN n) base tb mb r l := ⟨h.go, h.btb, h.bmb, h.nodup, h.fits⟩

set_option maxHeartbeats 1600000 in
theorem same_any {lo c : Nat} {A : Option Addr} (h : Tab w base tb mb r l) (hst : StIs w lo A l.length l) (hn : l.length ≤ 1099511627776) (hsz : ∀ s ∈ l, s.size ≤ maxLen) :
    Calls Try.prog 16 #[.pointer (some ⟨tb, 0, none⟩), .agg #[.slice A l.length c]] w fun e w' => e = .returned (.bool true) ∧ Below w.heap.size w w' := by
  have hb0 : Below w.heap.size w (w.alloc (.cells #[.slice A l.length c] 31)) := (Below.refl _ _).alloc (Nat.le_refl _) _
  have HT := Lib.hid (h.grow hb0)
  have HS := Lib.hid (hst.grow hb0)
  have HSZ := Lib.hid hsz
  have HB0 := Lib.hid hb0
  clear h hst hsz hb0
  go_enter Try.func16, Try.ntmps16
  go_wp2
  go_quiet ((go_at_call 23; exact Calls.quiet_of_same (len_q (HT.out.drewN _))))
  go_wp2
  go_loopw [5] (fun i wr => ∃ x : Int, -1 ≤ x ∧ x ≤ (l.length : Int) + 1 ∧ i = .int .i64 x ∧ Below (w.alloc (.cells #[.slice A l.length c] 31)).heap.size (w.alloc (.cells #[.slice A l.length c] 31)) wr) (fun i _ => ((l.length : Int) + 1 - intOf i).toNat)
  case atStart => exact ⟨-1, by omega, by omega, rfl, belowN (Below.refl _ _) _⟩
  case round =>
    obtain ⟨x, hx1, hx2, rfl, hbel⟩ := hrel
    have HBEL := Lib.hid hbel
    have HTr := Lib.hid (HT.out.grow hbel)
    have HSr := Lib.hid (HS.out.grow hbel)
    have kb := (Blk.new w 31 #[.slice A l.length c]).grow hbel
    have cb := kb.cell 0
    simp at cb
    clear hbel kb
    by_cases hlt : x < 0
    · obtain rfl : x = -1 := by omega
      go_wp2_with fail
      refine (name_no HTr.out (.inl (by omega))).mono ?_
      rintro e w1 ⟨rfl, rfl⟩
      go_wp2_with fail
      refine (rname_no (A := A) (c := c) hn (.inl (by omega))).mono ?_
      rintro e w1 ⟨rfl, hb1⟩
      have HB1 := Lib.hid hb1
      clear hb1
      go_wp2
      go_roundw
      case rel => exact ⟨0, by omega, by omega, rfl, HBEL.out.trans (HB1.out.mono HBEL.out.size)⟩
      case measure => simp [intOf]; omega
    · by_cases hin : x < (l.length : Int)
      · obtain ⟨m, rfl⟩ := Int.eq_ofNat_of_zero_le (show 0 ≤ x by omega)
        obtain ⟨s, hs⟩ := at_lt (l := l) (k := m) (by omega)
        have HSM := Lib.hid hs
        have hsz := HSZ.out s (List.mem_of_getElem? hs)
        have hbs := bytes_self s
        clear hs
        go_wp2_with fail
        refine (name_yes HTr.out HSM.out).mono ?_
        rintro e w1 ⟨rfl, rfl⟩
        go_wp2_with fail
        refine (rname_yes (A := A) (c := c) HSr.out.rd hn HSM.out).mono ?_
        rintro e w1 ⟨rfl, hb1⟩
        have HB1 := Lib.hid hb1
        have HT1 := Lib.hid (HTr.out.grow hb1)
        clear hb1
        go_wp2_with fail
        refine (find_yes HT1.out hsz HSM.out).mono ?_
        rintro e w2 ⟨rfl, rfl⟩
        go_wp2
        go_roundw
        case rel => exact ⟨(m : Int) + 1, by omega, by omega, rfl, HBEL.out.trans (HB1.out.mono HBEL.out.size)⟩
        case measure => simp [intOf]; omega
      · by_cases hle : x ≤ (l.length : Int)
        · obtain rfl : x = (l.length : Int) := by omega
          go_wp2_with fail
          refine (name_no HTr.out (.inr (by omega))).mono ?_
          rintro e w1 ⟨rfl, rfl⟩
          go_wp2_with fail
          refine (rname_no (A := A) (c := c) hn (.inr (by omega))).mono ?_
          rintro e w1 ⟨rfl, hb1⟩
          have HB1 := Lib.hid hb1
          clear hb1
          go_wp2
          go_roundw
          case rel => exact ⟨(l.length : Int) + 1, by omega, by omega, rfl, HBEL.out.trans (HB1.out.mono HBEL.out.size)⟩
          case measure => simp [intOf]
        · go_wp2
          go_ret
          exact ⟨rfl, HB0.out.trans (HBEL.out.mono (Nat.le_of_lt (Blk.new w 31 #[.slice A l.length c]).lt))⟩
end
end Go.Proofs.Ytonlalfdpggioaa
