/- The fixed examples of chapter 21 hold: 'awake' returns true, and leaves all old memory as it is. -/
import Derived.Test.YtpeidgfaejnhiaaDemS
namespace Go.Proofs.Ytpeidgfaejnhiaa
open Go.RowKit Go.Maps

abbrev exA : Con := ⟨⟨#[97]⟩, 0, 10, 1000, 3⟩
abbrev exB : Con := ⟨⟨#[98]⟩, 1, 10, 1000, 0⟩
abbrev exC : Con := ⟨⟨#[99]⟩, 0, 10, 1000, 0⟩
abbrev exS : Sch := ⟨0, 2, 7, none, 0, 0, []⟩
abbrev exF : Fil := ⟨1, 900, 950⟩
abbrev exD0 : Dem := ⟨0, 3, 0, 1000, 0, 3600, 60⟩
abbrev exD1 : Dem := ⟨1, 0, 1, 950, 0, 3600, 60⟩
abbrev exT (g : Nat) : Tri := ⟨some ⟨g, 0, none⟩, 3, 3, [exA, exB, exC], some ⟨g + 1, 0, none⟩, 1, 1, [exS], some ⟨g + 2, 0, none⟩, 1, 1, [exF]⟩
theorem ex1 : makL [exA, exB, exC] [exS] [exF] 9 900 0 3600 60 = [exD0, exD1] := by kernel_rfl
theorem ex2 : makE [exA, exB, exC] [exS] [exF] 9 900 0 3600 60 = 0 := by kernel_rfl
theorem ex3 : whyV [exA, exB, exC] [exS] [exF] 9 900 1 = 2 := by kernel_rfl
theorem ex4 : whyE [exA, exB, exC] [exS] [exF] 9 900 1 = 0 := by kernel_rfl
theorem ex5 : whyV [exA, exB, exC] [exS] [exF] 9 951 1 = 0 := by kernel_rfl
theorem ex6 : whyE [exA, exB, exC] [exS] [exF] 9 951 1 = 0 := by kernel_rfl
theorem ex7 : demsE [exD0, exD1] 4 2 = 0 := by kernel_rfl
theorem ex8 : demsE [exD0, exD1] 3 2 = 7 := by kernel_rfl
theorem exIn (w : World) : (exT w.heap.size).In (((w.alloc (.cells #[.string ⟨#[97]⟩, .int .i64 0, .int .i64 10, .int .i64 1000, .int .i64 3, .string ⟨#[98]⟩, .int .i64 1, .int .i64 10, .int .i64 1000, .int .i64 0, .string ⟨#[99]⟩, .int .i64 0, .int .i64 10, .int .i64 1000, .int .i64 0] 49)).alloc (.cells #[.int .i64 0, .int .i64 2, .int .i64 7, .slice none 0 0] 45)).alloc (.cells #[.int .i64 1, .int .i64 900, .int .i64 950] 53)) := by
  have h1 := RdT.lit w (f := Con.cs) (s := 5) (fun _ => rfl) [exA, exB, exC] #[.string ⟨#[97]⟩, .int .i64 0, .int .i64 10, .int .i64 1000, .int .i64 3, .string ⟨#[98]⟩, .int .i64 1, .int .i64 10, .int .i64 1000, .int .i64 0, .string ⟨#[99]⟩, .int .i64 0, .int .i64 10, .int .i64 1000, .int .i64 0] 49 rfl
  obtain ⟨w1, hw1⟩ : ∃ w1, w.alloc (.cells #[.string ⟨#[97]⟩, .int .i64 0, .int .i64 10, .int .i64 1000, .int .i64 3, .string ⟨#[98]⟩, .int .i64 1, .int .i64 10, .int .i64 1000, .int .i64 0, .string ⟨#[99]⟩, .int .i64 0, .int .i64 10, .int .i64 1000, .int .i64 0] 49) = w1 := ⟨_, rfl⟩
  have e1 : w1.heap.size = w.heap.size + 1 := by rw [← hw1]; simp
  rw [hw1] at h1 ⊢
  have h2 := RdT.lit w1 (f := Sch.cs) (s := 4) (fun _ => rfl) [exS] #[.int .i64 0, .int .i64 2, .int .i64 7, .slice none 0 0] 45 rfl
  obtain ⟨w2, hw2⟩ : ∃ w2, w1.alloc (.cells #[.int .i64 0, .int .i64 2, .int .i64 7, .slice none 0 0] 45) = w2 := ⟨_, rfl⟩
  have b2 : Below w1.heap.size w1 w2 := by rw [← hw2]; exact (Below.refl _ _).alloc (Nat.le_refl _) _
  have e2 : w2.heap.size = w.heap.size + 2 := by rw [← hw2]; simp [e1]
  rw [hw2] at h2 ⊢
  rw [e1] at h2
  have h3 := RdT.lit w2 (f := Fil.cs) (s := 3) (fun _ => rfl) [exF] #[.int .i64 1, .int .i64 900, .int .i64 950] 53 rfl
  have b3 : Below w2.heap.size w2 (w2.alloc (.cells #[.int .i64 1, .int .i64 900, .int .i64 950] 53)) := (Below.refl _ _).alloc (Nat.le_refl _) _
  rw [show RdT _ _ _ _ (some ⟨w2.heap.size, 0, none⟩) _ _ = RdT _ _ _ _ (some ⟨w.heap.size + 2, 0, none⟩) _ _ by rw [e2]] at h3
  refine ⟨(h1.up b2).up b3, (by decide : 3 ≤ maxLen), ?_, h2.up b3, (by decide : 1 ≤ maxLen), ?_, h3, (by decide : 1 ≤ maxLen), Nat.le_refl _, Nat.le_refl _, Nat.le_refl _⟩
  · intro x hx
    simp at hx
    rcases hx with rfl | rfl | rfl <;> exact ⟨by decide +kernel, ⟨by decide, by decide⟩, ⟨by decide, by decide⟩, ⟨by decide, by decide⟩, ⟨by decide, by decide⟩⟩
  · intro x hx
    simp at hx
    subst hx
    exact ⟨RdT.none_, Nat.zero_le _, by simp⟩

theorem mak_len {C : List Con} {S : List Sch} {F : List Fil} {day level f t v : Int} {n : Nat} (hn : n ≤ maxLen) (h : C.length = n) : (makL C S F day level f t v).length ≤ maxLen := by
  unfold makL
  split
  · have := demsL_len C S F day level f t v C 0
    unfold allD
    omega
  · exact Nat.zero_le _

set_option maxRecDepth 100000 in
set_option maxHeartbeats 3200000 in
theorem awake_any (w : World) : Calls Try.prog 10 #[] w fun e w' => e = .returned (.bool true) ∧ Below w.heap.size w w' := by
  have hIn := exIn w
  have hd : i64ok 9 := ⟨by decide, by decide⟩
  have HD := Lib.hid hd
  clear hd
  go_enter Try.func10, Try.ntmps10
  go_wp2_with fail
  obtain ⟨w3, hw3, hb3⟩ : ∃ w3, ((w.alloc (.cells #[.string ⟨#[97]⟩, .int .i64 0, .int .i64 10, .int .i64 1000, .int .i64 3, .string ⟨#[98]⟩, .int .i64 1, .int .i64 10, .int .i64 1000, .int .i64 0, .string ⟨#[99]⟩, .int .i64 0, .int .i64 10, .int .i64 1000, .int .i64 0] 49)).alloc (.cells #[.int .i64 0, .int .i64 2, .int .i64 7, .slice none 0 0] 45)).alloc (.cells #[.int .i64 1, .int .i64 900, .int .i64 950] 53) = w3 ∧ Below w.heap.size w w3 := ⟨_, rfl, by go_grown⟩
  have e3 : w3.heap.size = w.heap.size + 3 := by rw [← hw3]; simp
  rw [hw3] at hIn ⊢
  clear hw3
  have kw := Blk.new w3 26 #[.int .i64 0, .int .i64 3600]
  rw [e3] at kw
  obtain ⟨w4, hw4, hb4⟩ : ∃ w4, w3.alloc (.cells #[.int .i64 0, .int .i64 3600] 26) = w4 ∧ Below w3.heap.size w3 w4 := ⟨_, rfl, (Below.refl _ _).alloc (Nat.le_refl _) _⟩
  rw [hw4] at kw ⊢
  have HB4 := Lib.hid (bthen hb3 hb4 hb3.size)
  have HIN := Lib.hid (hIn.up hb4)
  have KW := Lib.hid kw
  clear hb3 hIn hb4 hw4 e3 kw
  refine (make_any HIN.out 9 900 0 3600 60 HD.out).mono ?_
  rw [ex1, ex2]
  rintro e w5 ⟨A, c, rfl, hcap, hr, hb5⟩
  have HCAP := Lib.hid hcap
  have HR := Lib.hid hr
  have HB5 := Lib.hid (bthen HB4.out hb5 HB4.out.size)
  have HIN5 := Lib.hid (HIN.out.up hb5)
  have KW5 := Lib.hid (KW.out.grow hb5)
  clear hcap hr hb5 HIN KW
  go_wp2_with fail
  refine (why_any HIN5.out 9 900 1 HD.out).mono ?_
  rw [ex3, ex4]
  rintro e w6 ⟨rfl, hb6⟩
  have HR6 := Lib.hid (HR.out.up hb6)
  have HB6 := Lib.hid (bthen HB5.out hb6 HB5.out.size)
  have HIN6 := Lib.hid (HIN5.out.up hb6)
  have KW6 := Lib.hid (KW5.out.grow hb6)
  clear hb6 HIN5 KW5 HR
  go_wp2_with fail
  refine (why_any HIN6.out 9 951 1 HD.out).mono ?_
  rw [ex5, ex6]
  rintro e w7 ⟨rfl, hb7⟩
  have HR7 := Lib.hid (HR6.out.up hb7)
  have HB7 := Lib.hid (bthen HB6.out hb7 HB6.out.size)
  have KW7 := Lib.hid (KW6.out.grow hb7)
  clear hb7 HIN6 KW6 HR6
  have y0 := KW7.out.cell 0
  have y1 := KW7.out.cell 1
  simp at y0 y1
  have HLIT := Lib.hid (RdT.lit w7 (f := Dem.cs) (s := 7) (fun _ => rfl) [exD0, exD1] #[.int .i64 0, .int .i64 3, .int .i64 0, .int .i64 1000, .int .i64 0, .int .i64 3600, .int .i64 60, .int .i64 1, .int .i64 0, .int .i64 1, .int .i64 950, .int .i64 0, .int .i64 3600, .int .i64 60] 55 rfl)
  have HBL := Lib.hid (HB7.out.alloc HB7.out.size (.cells #[.int .i64 0, .int .i64 3, .int .i64 0, .int .i64 1000, .int .i64 0, .int .i64 3600, .int .i64 60, .int .i64 1, .int .i64 0, .int .i64 1, .int .i64 950, .int .i64 0, .int .i64 3600, .int .i64 60] 55))
  have HR8 := Lib.hid (HR7.out.up ((Below.refl _ _).alloc (Nat.le_refl _) (.cells #[.int .i64 0, .int .i64 3, .int .i64 0, .int .i64 1000, .int .i64 0, .int .i64 3600, .int .i64 60, .int .i64 1, .int .i64 0, .int .i64 1, .int .i64 950, .int .i64 0, .int .i64 3600, .int .i64 60] 55)))
  go_wp2_with fail
  refine (same_any HR8.out HLIT.out (by decide)).mono ?_
  rintro e w8 ⟨rfl, hb8⟩
  have HB8 := Lib.hid (bthen HBL.out hb8 HBL.out.size)
  have HR9 := Lib.hid (HR8.out.up hb8)
  clear hb8
  go_wp2_with fail
  refine (dchk_any HR9.out (by decide) HCAP.out 4 2).mono ?_
  rw [ex7]
  rintro e w9 ⟨rfl, hb9⟩
  have HB9 := Lib.hid (bthen HB8.out hb9 HB8.out.size)
  have HR10 := Lib.hid (HR9.out.up hb9)
  clear hb9
  go_wp2_with fail
  refine (dchk_any HR10.out (by decide) HCAP.out 3 2).mono ?_
  rw [ex8]
  rintro e w10 ⟨rfl, hb10⟩
  have HB10 := Lib.hid (bthen HB9.out hb10 HB9.out.size)
  clear hb10
  go_wp2
  go_ret
  exact ⟨rfl, HB10.out⟩
end Go.Proofs.Ytpeidgfaejnhiaa
