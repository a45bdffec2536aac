/- A contract of the law's fixed examples: 'awake' returns true, and leaves all old memory as it is. -/
import Derived.Test.YtonlalfdpggioaaNew
import Derived.Deep.DeepFit
namespace Go.Proofs.Ytonlalfdpggioaa
open Go.RowKit Go.Maps

theorem new_ok {w : World} {A : Option Addr} {n c : Nat} {ss : List ByteArray} (h : RdS w (· < w.heap.size) A n (strs ss)) (hn : n ≤ 1099511627776) (hsz : ∀ s ∈ ss, s.size ≤ maxLen) (hE : newE [] ss = 0) :
    Calls Try.prog 14 #[.slice A n c] w fun e w' => ∃ tb mb r, e = .returned (.tuple #[.pointer (some ⟨tb, 0, none⟩), .int .i64 0]) ∧ Tab w' w.heap.size tb mb r ss ∧ Below w.heap.size w w' :=
  (new_any h hn hsz).mono fun e w' ⟨hb, hp⟩ => by
    rcases hp with ⟨_, tb, mb, r, he, ht⟩ | ⟨h0, _⟩
    · exact ⟨tb, mb, r, he, ht, hb⟩
    · exact absurd hE h0
theorem new_err {w : World} {A : Option Addr} {n c : Nat} {ss : List ByteArray} (h : RdS w (· < w.heap.size) A n (strs ss)) (hn : n ≤ 1099511627776) (hsz : ∀ s ∈ ss, s.size ≤ maxLen) (hE : newE [] ss ≠ 0) :
    Calls Try.prog 14 #[.slice A n c] w fun e w' => e = .returned (.tuple #[.pointer none, .int .i64 (newE [] ss)]) ∧ Below w.heap.size w w' :=
  (new_any h hn hsz).mono fun e w' ⟨hb, hp⟩ => by
    rcases hp with ⟨h0, _⟩ | ⟨_, he⟩
    · exact absurd h0 hE
    · exact ⟨he, hb⟩

def ex1 : List ByteArray := [⟨#[98]⟩, ⟨#[97]⟩, ⟨#[66]⟩]
def ex2 : List ByteArray := [⟨#[97]⟩, ⟨#[49]⟩, ⟨#[97]⟩]
def exc : ByteArray := ⟨#[99]⟩
theorem ex1_new : newE [] ex1 = 0 := by decide +kernel
theorem ex2_new : newE [] ex2 = 5 := by decide +kernel
theorem ex1_small : ∀ s ∈ ex1, s.size ≤ maxLen := by decide +kernel
theorem ex2_small : ∀ s ∈ ex2, s.size ≤ maxLen := by decide +kernel
theorem exc_add : validB exc.data.toList = true ∧ memB ex1 exc = false := by decide +kernel
theorem exA_no : memB ex1 ⟨#[65]⟩ = false := by decide +kernel
theorem not_mem_of {l : List ByteArray} {s : ByteArray} (h : memB l s = false) : s ∉ l := fun hm => by rw [memB_iff.2 hm] at h; cases h
theorem exV1 : validB [120, 46, 121, 95, 122] = true := by decide +kernel
theorem exV2 : validB [49, 97] = false := by decide +kernel

set_option maxHeartbeats 1000000 in
theorem awake_any (w : World) : Calls Try.prog 12 #[] w fun e w' => e = .returned (.bool true) ∧ Below w.heap.size w w' := by
  go_enter Try.func12, Try.ntmps12
  go_wp2_with fail
  have hrd : RdS (w.alloc (.cells #[.string ⟨#[98]⟩, .string ⟨#[97]⟩, .string ⟨#[66]⟩] 9)) (· < (w.alloc (.cells #[.string ⟨#[98]⟩, .string ⟨#[97]⟩, .string ⟨#[66]⟩] 9)).heap.size) (some ⟨w.heap.size, 0, none⟩) 3 (strs ex1) := RdS.lit _ _ _
  refine (new_ok hrd (by decide) ex1_small ex1_new).mono ?_
  rintro e w1 ⟨tb, mb, r, rfl, ht, hb⟩
  have HB1 := Lib.hid hb
  have hz1 := hb.size
  clear hb hrd
  go_wp2_with fail
  refine (len_any ht).mono ?_
  rintro e w2 ⟨rfl, rfl⟩
  go_wp2_with fail
  refine (find_yes (i := 1) ht (by decide) rfl).mono ?_
  rintro e w2 ⟨rfl, rfl⟩
  go_wp2_with fail
  refine (find_no ht (by decide) (not_mem_of exA_no)).mono ?_
  rintro e w2 ⟨rfl, rfl⟩
  go_wp2_with fail
  refine (name_yes (i := 2) ht rfl).mono ?_
  rintro e w2 ⟨rfl, rfl⟩
  go_wp2_with fail
  refine (add_new ht (by decide) exc_add.1 (not_mem_of exc_add.2) (by decide)).mono ?_
  rintro e w2 ⟨rfl, r2, ht2, hturn⟩
  have HB2 := Lib.hid (hturn.below (base := w.heap.size) (ht.less (by simp)) (by simp at hz1; omega))
  have hz2 := hturn.size
  clear ht hturn
  go_wp2_with fail
  refine (add_twice ht2 (by decide) exc_add.1 (by simp [exc])).mono ?_
  rintro e w3 ⟨rfl, rfl⟩
  go_wp2_with fail
  have hrd : RdS (w2.alloc (.cells #[.string ⟨#[97]⟩, .string ⟨#[49]⟩, .string ⟨#[97]⟩] 9)) (· < (w2.alloc (.cells #[.string ⟨#[97]⟩, .string ⟨#[49]⟩, .string ⟨#[97]⟩] 9)).heap.size) (some ⟨w2.heap.size, 0, none⟩) 3 (strs ex2) := RdS.lit _ _ _
  refine (new_err hrd (by decide) ex2_small (by rw [ex2_new]; decide)).mono ?_
  rw [ex2_new]
  rintro e w3 ⟨rfl, hb3⟩
  have ht3 := (ht2.grow ((Below.refl _ _).alloc (Nat.le_refl _) (.cells #[.string ⟨#[97]⟩, .string ⟨#[49]⟩, .string ⟨#[97]⟩] 9))).grow hb3
  have HB3 := Lib.hid hb3
  clear hb3 ht2 hrd
  go_wp2_with fail
  refine (valid_val exV1 _ (by decide)).mono ?_
  rintro e w4 ⟨rfl, rfl⟩
  go_wp2_with fail
  refine (valid_val exV2 _ (by decide)).mono ?_
  rintro e w4 ⟨rfl, rfl⟩
  go_wp2_with fail
  refine (len_any ht3).mono ?_
  rintro e w4 ⟨rfl, rfl⟩
  go_wp2_with fail
  go_ret
  refine ⟨rfl, ?_⟩
  have b1 : Below w.heap.size w w1 := ((Below.refl _ _).alloc (Nat.le_refl _) _).trans (HB1.out.mono (by simp))
  exact (b1.trans HB2.out).trans (((Below.refl _ _).alloc (by simp at hz1; omega) _).trans (HB3.out.mono (by simp at hz1 ⊢; omega)))
end Go.Proofs.Ytonlalfdpggioaa
