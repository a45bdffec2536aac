/- The fixed examples of chapter 20 hold: 'awake' returns true, and leaves all old memory as it is. -/
import Derived.Test.YthalbjnjlgnndaaVehL
namespace Go.Proofs.Ythalbjnjlgnndaa
open Go.RowKit

set_option maxRecDepth 100000 in
set_option maxHeartbeats 3200000 in
theorem awake_any (w : World) : Calls Try.prog 11 #[] w fun e w' => e = .returned (.bool true) ∧ Below w.heap.size w w' := by
  have v1 : Hid (chkV [exV] 1 3 = 0) := Lib.hid (by decide +kernel)
  have v2 : Hid (chkV [exV] 1 2 = 21) := Lib.hid (by decide +kernel)
  have v3 : Hid (chkV [exV, exBad] 1 3 = 5) := Lib.hid (by decide +kernel)
  have v4 : Hid (carB 5 2 = true) := Lib.hid (by decide +kernel)
  have v5 : Hid (carB 5 1 = false) := Lib.hid (by decide +kernel)
  have v6 : Hid (carB 5 (-1) = false) := Lib.hid (by decide +kernel)
  have v7 : Hid (kindsL 5 = [0, 2]) := Lib.hid (by decide +kernel)
  have v8 : Hid (decide (fitP 1000 [600, 400]) = true) := Lib.hid (by decide +kernel)
  have v9 : Hid (decide (fitP 1000 [600, 401]) = false) := Lib.hid (by decide +kernel)
  have v10 : Hid (decide (fitP 1000 [500, -1]) = false) := Lib.hid (by decide +kernel)
  have v11 : Hid (atL (fun x : Veh => carB x.kinds 0) [exBad, exZ, exV] = [0, 2]) := Lib.hid (by decide +kernel)
  have og : i64ok exV.gr := ⟨by decide, by decide⟩
  have OG := Lib.hid og
  clear og
  go_enter Try.func11, Try.ntmps11
  go_wp2_with fail
  refine (sample_any _).mono ?_
  rintro e w1 ⟨rfl, hb1⟩
  have k1 := (Blk.new w1 32 #[.string ⟨#[118, 49]⟩, .int .i64 0, .int .i64 21600, .int .i64 50400, .int .i64 1000, .int .i64 5]).alloc (.cells #[.string ⟨#[118, 49]⟩, .int .i64 0, .int .i64 21600, .int .i64 50400, .int .i64 1000, .int .i64 5] 32)
  have k2 := (((Blk.new1 w1 (.cells #[.string ⟨#[118, 49]⟩, .int .i64 0, .int .i64 21600, .int .i64 50400, .int .i64 1000, .int .i64 5] 32) 32 #[.string ⟨#[118, 49]⟩, .int .i64 0, .int .i64 21600, .int .i64 50400, .int .i64 1000, .int .i64 5]).set_ 0 (.string ⟨#[49]⟩)).set_ 1 (.int .i64 9))
  have z1 := k1.lt
  obtain ⟨w2, hw2, hb2⟩ : ∃ w2, (w1.alloc (.cells #[.string ⟨#[118, 49]⟩, .int .i64 0, .int .i64 21600, .int .i64 50400, .int .i64 1000, .int .i64 5] 32)).alloc (.cells #[.string ⟨#[49]⟩, .int .i64 9, .int .i64 21600, .int .i64 50400, .int .i64 1000, .int .i64 5] 32) = w2 ∧ Below w.heap.size w w2 := ⟨_, rfl, (hb1.alloc hb1.size _).alloc (by have := hb1.size; simp; omega) _⟩
  have k1 := (Blk.new w1 32 #[.string ⟨#[118, 49]⟩, .int .i64 0, .int .i64 21600, .int .i64 50400, .int .i64 1000, .int .i64 5]).alloc (.cells #[.string ⟨#[49]⟩, .int .i64 9, .int .i64 21600, .int .i64 50400, .int .i64 1000, .int .i64 5] 32)
  have k2 := Blk.new1 w1 (.cells #[.string ⟨#[118, 49]⟩, .int .i64 0, .int .i64 21600, .int .i64 50400, .int .i64 1000, .int .i64 5] 32) 32 #[.string ⟨#[49]⟩, .int .i64 9, .int .i64 21600, .int .i64 50400, .int .i64 1000, .int .i64 5]
  rw [hw2] at k1 k2
  have K1_2 := Lib.hid k1
  have K2_2 := Lib.hid k2
  have HB2 := Lib.hid hb2
  clear hb1 hb2 k1 k2 z1
  have c10 := K1_2.out.cell 0
  have c11 := K1_2.out.cell 1
  have c12 := K1_2.out.cell 2
  have c13 := K1_2.out.cell 3
  have c14 := K1_2.out.cell 4
  have c15 := K1_2.out.cell 5
  simp at c10 c11 c12 c13 c14 c15
  go_wp2_with fail
  refine (check_any (c := 1) (RdT.lit w2 (f := Veh.cs) (s := 6) (fun _ => rfl) [exV] #[.string ⟨#[118, 49]⟩, .int .i64 0, .int .i64 21600, .int .i64 50400, .int .i64 1000, .int .i64 5] 32 rfl) (by decide) (by intro x hx; simp at hx; first | (rcases hx with rfl | rfl <;> decide +kernel) | (subst hx; decide +kernel)) 1 3).mono ?_
  rw [v1.out]
  rintro e w3 ⟨rfl, hb⟩
  have K1_3 := Lib.hid ((K1_2.out.alloc (.cells #[.string ⟨#[118, 49]⟩, .int .i64 0, .int .i64 21600, .int .i64 50400, .int .i64 1000, .int .i64 5] 32)).grow hb)
  have K2_3 := Lib.hid ((K2_2.out.alloc (.cells #[.string ⟨#[118, 49]⟩, .int .i64 0, .int .i64 21600, .int .i64 50400, .int .i64 1000, .int .i64 5] 32)).grow hb)
  have HB3 := Lib.hid ((HB2.out.alloc HB2.out.size (.cells #[.string ⟨#[118, 49]⟩, .int .i64 0, .int .i64 21600, .int .i64 50400, .int .i64 1000, .int .i64 5] 32)).trans (hb.mono (by have := HB2.out.size; simp; omega)))
  clear hb c10 c11 c12 c13 c14 c15 K1_2 K2_2 HB2 hw2
  have c10 := K1_3.out.cell 0
  have c11 := K1_3.out.cell 1
  have c12 := K1_3.out.cell 2
  have c13 := K1_3.out.cell 3
  have c14 := K1_3.out.cell 4
  have c15 := K1_3.out.cell 5
  simp at c10 c11 c12 c13 c14 c15
  go_wp2_with fail
  refine (check_any (c := 1) (RdT.lit w3 (f := Veh.cs) (s := 6) (fun _ => rfl) [exV] #[.string ⟨#[118, 49]⟩, .int .i64 0, .int .i64 21600, .int .i64 50400, .int .i64 1000, .int .i64 5] 32 rfl) (by decide) (by intro x hx; simp at hx; first | (rcases hx with rfl | rfl <;> decide +kernel) | (subst hx; decide +kernel)) 1 2).mono ?_
  rw [v2.out]
  rintro e w4 ⟨rfl, hb⟩
  have K1_4 := Lib.hid ((K1_3.out.alloc (.cells #[.string ⟨#[118, 49]⟩, .int .i64 0, .int .i64 21600, .int .i64 50400, .int .i64 1000, .int .i64 5] 32)).grow hb)
  have K2_4 := Lib.hid ((K2_3.out.alloc (.cells #[.string ⟨#[118, 49]⟩, .int .i64 0, .int .i64 21600, .int .i64 50400, .int .i64 1000, .int .i64 5] 32)).grow hb)
  have HB4 := Lib.hid ((HB3.out.alloc HB3.out.size (.cells #[.string ⟨#[118, 49]⟩, .int .i64 0, .int .i64 21600, .int .i64 50400, .int .i64 1000, .int .i64 5] 32)).trans (hb.mono (by have := HB3.out.size; simp; omega)))
  clear hb c10 c11 c12 c13 c14 c15 K1_3 K2_3 HB3
  have c10 := K1_4.out.cell 0
  have c11 := K1_4.out.cell 1
  have c12 := K1_4.out.cell 2
  have c13 := K1_4.out.cell 3
  have c14 := K1_4.out.cell 4
  have c15 := K1_4.out.cell 5
  have c20 := K2_4.out.cell 0
  have c21 := K2_4.out.cell 1
  have c22 := K2_4.out.cell 2
  have c23 := K2_4.out.cell 3
  have c24 := K2_4.out.cell 4
  have c25 := K2_4.out.cell 5
  simp at c10 c11 c12 c13 c14 c15 c20 c21 c22 c23 c24 c25
  go_wp2_with fail
  refine (check_any (c := 2) (RdT.lit w4 (f := Veh.cs) (s := 6) (fun _ => rfl) [exV, exBad] #[.string ⟨#[118, 49]⟩, .int .i64 0, .int .i64 21600, .int .i64 50400, .int .i64 1000, .int .i64 5, .string ⟨#[49]⟩, .int .i64 9, .int .i64 21600, .int .i64 50400, .int .i64 1000, .int .i64 5] 32 rfl) (by decide) (by intro x hx; simp at hx; first | (rcases hx with rfl | rfl <;> decide +kernel) | (subst hx; decide +kernel)) 1 3).mono ?_
  rw [v3.out]
  rintro e w5 ⟨rfl, hb⟩
  have K1_5 := Lib.hid ((K1_4.out.alloc (.cells #[.string ⟨#[118, 49]⟩, .int .i64 0, .int .i64 21600, .int .i64 50400, .int .i64 1000, .int .i64 5, .string ⟨#[49]⟩, .int .i64 9, .int .i64 21600, .int .i64 50400, .int .i64 1000, .int .i64 5] 32)).grow hb)
  have K2_5 := Lib.hid ((K2_4.out.alloc (.cells #[.string ⟨#[118, 49]⟩, .int .i64 0, .int .i64 21600, .int .i64 50400, .int .i64 1000, .int .i64 5, .string ⟨#[49]⟩, .int .i64 9, .int .i64 21600, .int .i64 50400, .int .i64 1000, .int .i64 5] 32)).grow hb)
  have HB5 := Lib.hid ((HB4.out.alloc HB4.out.size (.cells #[.string ⟨#[118, 49]⟩, .int .i64 0, .int .i64 21600, .int .i64 50400, .int .i64 1000, .int .i64 5, .string ⟨#[49]⟩, .int .i64 9, .int .i64 21600, .int .i64 50400, .int .i64 1000, .int .i64 5] 32)).trans (hb.mono (by have := HB4.out.size; simp; omega)))
  clear hb c10 c11 c12 c13 c14 c15 c20 c21 c22 c23 c24 c25 K1_4 K2_4 HB4
  have c10 := K1_5.out.cell 0
  have c11 := K1_5.out.cell 1
  have c12 := K1_5.out.cell 2
  have c13 := K1_5.out.cell 3
  have c14 := K1_5.out.cell 4
  have c15 := K1_5.out.cell 5
  simp at c10 c11 c12 c13 c14 c15
  go_wp2_with fail
  refine (carries_any exV 2 _).mono ?_
  rw [v4.out]
  rintro e w6 ⟨rfl, hb⟩
  have K1_6 := Lib.hid (K1_5.out.grow hb)
  have K2_6 := Lib.hid (K2_5.out.grow hb)
  have HB6 := Lib.hid (HB5.out.trans (hb.mono HB5.out.size))
  clear hb c10 c11 c12 c13 c14 c15 K1_5 K2_5 HB5
  have c10 := K1_6.out.cell 0
  have c11 := K1_6.out.cell 1
  have c12 := K1_6.out.cell 2
  have c13 := K1_6.out.cell 3
  have c14 := K1_6.out.cell 4
  have c15 := K1_6.out.cell 5
  simp at c10 c11 c12 c13 c14 c15
  go_wp2_with fail
  refine (carries_any exV 1 _).mono ?_
  rw [v5.out]
  rintro e w7 ⟨rfl, hb⟩
  have K1_7 := Lib.hid (K1_6.out.grow hb)
  have K2_7 := Lib.hid (K2_6.out.grow hb)
  have HB7 := Lib.hid (HB6.out.trans (hb.mono HB6.out.size))
  clear hb c10 c11 c12 c13 c14 c15 K1_6 K2_6 HB6
  have c10 := K1_7.out.cell 0
  have c11 := K1_7.out.cell 1
  have c12 := K1_7.out.cell 2
  have c13 := K1_7.out.cell 3
  have c14 := K1_7.out.cell 4
  have c15 := K1_7.out.cell 5
  simp at c10 c11 c12 c13 c14 c15
  go_wp2_with fail
  refine (carries_any exV (-1) _).mono ?_
  rw [v6.out]
  rintro e w8 ⟨rfl, hb⟩
  have K1_8 := Lib.hid (K1_7.out.grow hb)
  have K2_8 := Lib.hid (K2_7.out.grow hb)
  have HB8 := Lib.hid (HB7.out.trans (hb.mono HB7.out.size))
  clear hb c10 c11 c12 c13 c14 c15 K1_7 K2_7 HB7
  have c10 := K1_8.out.cell 0
  have c11 := K1_8.out.cell 1
  have c12 := K1_8.out.cell 2
  have c13 := K1_8.out.cell 3
  have c14 := K1_8.out.cell 4
  have c15 := K1_8.out.cell 5
  simp at c10 c11 c12 c13 c14 c15
  go_wp2_with fail
  refine (kinds_any exV _).mono ?_
  rw [v7.out]
  rintro e w9 ⟨A1, c1, rfl, hr, hb⟩
  have K1_9 := Lib.hid (K1_8.out.grow hb)
  have K2_9 := Lib.hid (K2_8.out.grow hb)
  have HB9 := Lib.hid (HB8.out.trans (hb.mono HB8.out.size))
  have HR := Lib.hid (hr.mono fun b h => h.2)
  clear hr
  clear hb c10 c11 c12 c13 c14 c15 K1_8 K2_8 HB8
  go_wp2_with fail
  refine (ints_any (c := c1) (c' := 2) (l := [0, 2]) (HR.out.up (by go_grown)) (RdS.lit w9 #[.int .i64 0, .int .i64 2] 3) (by decide)).mono ?_
  rintro e w10 ⟨rfl, hb⟩
  have K1_10 := Lib.hid ((K1_9.out.alloc (.cells #[.int .i64 0, .int .i64 2] 3)).grow hb)
  have K2_10 := Lib.hid ((K2_9.out.alloc (.cells #[.int .i64 0, .int .i64 2] 3)).grow hb)
  have HB10 := Lib.hid ((HB9.out.alloc HB9.out.size (.cells #[.int .i64 0, .int .i64 2] 3)).trans (hb.mono (by have := HB9.out.size; simp; omega)))
  clear hb  K1_9 K2_9 HB9
  have c10 := K1_10.out.cell 0
  have c11 := K1_10.out.cell 1
  have c12 := K1_10.out.cell 2
  have c13 := K1_10.out.cell 3
  have c14 := K1_10.out.cell 4
  have c15 := K1_10.out.cell 5
  simp at c10 c11 c12 c13 c14 c15
  go_wp2_with fail
  refine (fits_any (v := exV) (c := 2) (l := [600, 400]) OG.out (RdS.lit w10 #[.int .i64 600, .int .i64 400] 3) (by decide) (by intro x hx; simp at hx; rcases hx with rfl | rfl <;> exact ⟨by decide, by decide⟩)).mono ?_
  rw [v8.out]
  rintro e w11 ⟨rfl, hb⟩
  have K1_11 := Lib.hid ((K1_10.out.alloc (.cells #[.int .i64 600, .int .i64 400] 3)).grow hb)
  have K2_11 := Lib.hid ((K2_10.out.alloc (.cells #[.int .i64 600, .int .i64 400] 3)).grow hb)
  have HB11 := Lib.hid ((HB10.out.alloc HB10.out.size (.cells #[.int .i64 600, .int .i64 400] 3)).trans (hb.mono (by have := HB10.out.size; simp; omega)))
  clear hb c10 c11 c12 c13 c14 c15 K1_10 K2_10 HB10
  have c10 := K1_11.out.cell 0
  have c11 := K1_11.out.cell 1
  have c12 := K1_11.out.cell 2
  have c13 := K1_11.out.cell 3
  have c14 := K1_11.out.cell 4
  have c15 := K1_11.out.cell 5
  simp at c10 c11 c12 c13 c14 c15
  go_wp2_with fail
  refine (fits_any (v := exV) (c := 2) (l := [600, 401]) OG.out (RdS.lit w11 #[.int .i64 600, .int .i64 401] 3) (by decide) (by intro x hx; simp at hx; rcases hx with rfl | rfl <;> exact ⟨by decide, by decide⟩)).mono ?_
  rw [v9.out]
  rintro e w12 ⟨rfl, hb⟩
  have K1_12 := Lib.hid ((K1_11.out.alloc (.cells #[.int .i64 600, .int .i64 401] 3)).grow hb)
  have K2_12 := Lib.hid ((K2_11.out.alloc (.cells #[.int .i64 600, .int .i64 401] 3)).grow hb)
  have HB12 := Lib.hid ((HB11.out.alloc HB11.out.size (.cells #[.int .i64 600, .int .i64 401] 3)).trans (hb.mono (by have := HB11.out.size; simp; omega)))
  clear hb c10 c11 c12 c13 c14 c15 K1_11 K2_11 HB11
  have c10 := K1_12.out.cell 0
  have c11 := K1_12.out.cell 1
  have c12 := K1_12.out.cell 2
  have c13 := K1_12.out.cell 3
  have c14 := K1_12.out.cell 4
  have c15 := K1_12.out.cell 5
  simp at c10 c11 c12 c13 c14 c15
  go_wp2_with fail
  refine (fits_any (v := exV) (c := 2) (l := [500, -1]) OG.out (RdS.lit w12 #[.int .i64 500, .int .i64 (-1)] 3) (by decide) (by intro x hx; simp at hx; rcases hx with rfl | rfl <;> exact ⟨by decide, by decide⟩)).mono ?_
  rw [v10.out]
  rintro e w13 ⟨rfl, hb⟩
  have K1_13 := Lib.hid ((K1_12.out.alloc (.cells #[.int .i64 500, .int .i64 (-1)] 3)).grow hb)
  have K2_13 := Lib.hid ((K2_12.out.alloc (.cells #[.int .i64 500, .int .i64 (-1)] 3)).grow hb)
  have HB13 := Lib.hid ((HB12.out.alloc HB12.out.size (.cells #[.int .i64 500, .int .i64 (-1)] 3)).trans (hb.mono (by have := HB12.out.size; simp; omega)))
  clear hb c10 c11 c12 c13 c14 c15 K1_12 K2_12 HB12
  have c10 := K1_13.out.cell 0
  have c11 := K1_13.out.cell 1
  have c12 := K1_13.out.cell 2
  have c13 := K1_13.out.cell 3
  have c14 := K1_13.out.cell 4
  have c15 := K1_13.out.cell 5
  have c20 := K2_13.out.cell 0
  have c21 := K2_13.out.cell 1
  have c22 := K2_13.out.cell 2
  have c23 := K2_13.out.cell 3
  have c24 := K2_13.out.cell 4
  have c25 := K2_13.out.cell 5
  simp at c10 c11 c12 c13 c14 c15 c20 c21 c22 c23 c24 c25
  go_wp2_with fail
  refine (useful_any (c := 3) (RdT.lit w13 (f := Veh.cs) (s := 6) (fun _ => rfl) [exBad, exZ, exV] #[.string ⟨#[49]⟩, .int .i64 9, .int .i64 21600, .int .i64 50400, .int .i64 1000, .int .i64 5, .string ⟨#[]⟩, .int .i64 0, .int .i64 0, .int .i64 0, .int .i64 0, .int .i64 0, .string ⟨#[118, 49]⟩, .int .i64 0, .int .i64 21600, .int .i64 50400, .int .i64 1000, .int .i64 5] 32 rfl) (by decide) 0).mono ?_
  rw [v11.out]
  rintro e w14 ⟨A2, c2, rfl, hr, hb⟩
  have K1_14 := Lib.hid ((K1_13.out.alloc (.cells #[.string ⟨#[49]⟩, .int .i64 9, .int .i64 21600, .int .i64 50400, .int .i64 1000, .int .i64 5, .string ⟨#[]⟩, .int .i64 0, .int .i64 0, .int .i64 0, .int .i64 0, .int .i64 0, .string ⟨#[118, 49]⟩, .int .i64 0, .int .i64 21600, .int .i64 50400, .int .i64 1000, .int .i64 5] 32)).grow hb)
  have K2_14 := Lib.hid ((K2_13.out.alloc (.cells #[.string ⟨#[49]⟩, .int .i64 9, .int .i64 21600, .int .i64 50400, .int .i64 1000, .int .i64 5, .string ⟨#[]⟩, .int .i64 0, .int .i64 0, .int .i64 0, .int .i64 0, .int .i64 0, .string ⟨#[118, 49]⟩, .int .i64 0, .int .i64 21600, .int .i64 50400, .int .i64 1000, .int .i64 5] 32)).grow hb)
  have HB14 := Lib.hid ((HB13.out.alloc HB13.out.size (.cells #[.string ⟨#[49]⟩, .int .i64 9, .int .i64 21600, .int .i64 50400, .int .i64 1000, .int .i64 5, .string ⟨#[]⟩, .int .i64 0, .int .i64 0, .int .i64 0, .int .i64 0, .int .i64 0, .string ⟨#[118, 49]⟩, .int .i64 0, .int .i64 21600, .int .i64 50400, .int .i64 1000, .int .i64 5] 32)).trans (hb.mono (by have := HB13.out.size; simp; omega)))
  have HR2 := Lib.hid (hr.mono fun b h => h.2)
  clear hr
  clear hb c10 c11 c12 c13 c14 c15 c20 c21 c22 c23 c24 c25 K1_13 K2_13 HB13
  go_wp2_with fail
  refine (ints_any (c := c2) (c' := 2) (l := [0, 2]) (HR2.out.up (by go_grown)) (RdS.lit w14 #[.int .i64 0, .int .i64 2] 3) (by decide)).mono ?_
  rintro e w15 ⟨rfl, hb⟩
  have K1_15 := Lib.hid ((K1_14.out.alloc (.cells #[.int .i64 0, .int .i64 2] 3)).grow hb)
  have K2_15 := Lib.hid ((K2_14.out.alloc (.cells #[.int .i64 0, .int .i64 2] 3)).grow hb)
  have HB15 := Lib.hid ((HB14.out.alloc HB14.out.size (.cells #[.int .i64 0, .int .i64 2] 3)).trans (hb.mono (by have := HB14.out.size; simp; omega)))
  clear hb  K1_14 K2_14 HB14
  go_wp2
  go_ret
  exact ⟨rfl, HB15.out⟩
end Go.Proofs.Ythalbjnjlgnndaa
