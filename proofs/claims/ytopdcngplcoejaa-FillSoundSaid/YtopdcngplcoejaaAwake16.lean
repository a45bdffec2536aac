/- The fixed examples of chapter 16 hold: 'awake' returns true, and leaves all old memory as it is. -/
import Derived.Test.YtopdcngplcoejaaFill6
namespace Go.Proofs.Ytopdcngplcoejaa
open Go.RowKit

set_option maxRecDepth 100000 in
set_option maxHeartbeats 1600000 in
theorem awake_any (w : World) : Calls Try.prog 15 #[] w fun e w' => e = .returned (.bool true) ∧ Below w.heap.size w w' := by
  have v1 : Hid (lvLo 1000 100 10 2 550 5 = 477 ∧ lvHi 1000 100 10 2 550 5 = 523 ∧ lvE 1000 100 10 2 550 5 = 0) := Lib.hid (by decide +kernel)
  have v2 : Hid (massLo 60000 477 523 = 28561 ∧ massHi 60000 477 523 = 31380 ∧ massE 60000 477 523 = 0) := Lib.hid (by decide +kernel)
  have v3 : Hid (lvLo 1000 100 10 2 1021 5 = 0 ∧ lvHi 1000 100 10 2 1021 5 = 0 ∧ lvE 1000 100 10 2 1021 5 = 10) := Lib.hid (by decide +kernel)
  have v4 : Hid (laterLo 1000 2000 100 300 43200 5000 = 1050 ∧ laterHi 1000 2000 100 300 43200 5000 = 2150 ∧ laterE 1000 2000 100 300 43200 5000 = 0) := Lib.hid (by decide +kernel)
  have v5 : Hid (fullV 0 2000 0 300 2150 = (43201, 0)) := Lib.hid (by decide +kernel)
  go_enter Try.func15, Try.ntmps15
  go_wp2_with fail
  have k1 := Blk.new w 23 #[.int .i64 1000, .int .i64 100, .int .i64 10, .int .i64 2]
  refine (level_any _ _ _ _ _ _ _).mono ?_
  rw [v1.out.1, v1.out.2.1, v1.out.2.2]
  rintro e w1 ⟨rfl, hb1⟩
  have s1 : w.heap.size < w1.heap.size := Nat.lt_of_lt_of_le k1.lt hb1.size
  have B1 : Hid (Below w.heap.size w w1) := Lib.hid (((Below.refl _ _).alloc (Nat.le_refl _) _).trans (hb1.mono (Nat.le_of_lt k1.lt)))
  replace k1 := (k1.grow hb1).alloc (.cells #[.int .i64 477, .int .i64 523] 25)
  have k2 := Blk.new w1 25 #[.int .i64 477, .int .i64 523]
  have c2 := k2.cell 0
  have c3 := k2.cell 1
  simp at c2 c3
  clear hb1
  have K1 := Lib.hid k1
  have K2 := Lib.hid k2
  clear k1 k2
  go_wp2_with fail
  refine (mass_any _ _ _ _ _ _ _ _).mono ?_
  rw [v2.out.1, v2.out.2.1, v2.out.2.2]
  rintro e w2 ⟨rfl, hb2⟩
  have s2 : w1.heap.size < w2.heap.size := Nat.lt_of_lt_of_le K2.out.lt hb2.size
  have B2 : Hid (Below w.heap.size w w2) := Lib.hid ((B1.out.alloc (by omega) _).trans (hb2.mono (Nat.le_trans (Nat.le_of_lt s1) (Nat.le_of_lt K2.out.lt))))
  have K1a := Lib.hid ((K1.out.grow hb2).alloc (.cells #[.int .i64 28561, .int .i64 31380] 25))
  have K2a := Lib.hid ((K2.out.grow hb2).alloc (.cells #[.int .i64 28561, .int .i64 31380] 25))
  have K3 := Lib.hid (Blk.new w2 25 #[.int .i64 28561, .int .i64 31380])
  clear hb2 c2 c3
  have c10 := K1a.out.cell 0
  have c11 := K1a.out.cell 1
  have c12 := K1a.out.cell 2
  have c13 := K1a.out.cell 3
  simp at c10 c11 c12 c13
  go_wp2_with fail
  refine (level_any _ _ _ _ _ _ _).mono ?_
  rw [v3.out.1, v3.out.2.1, v3.out.2.2]
  rintro e w3 ⟨rfl, hb3⟩
  have s3 : w2.heap.size < w3.heap.size := Nat.lt_of_lt_of_le K3.out.lt hb3.size
  have B3 : Hid (Below w.heap.size w w3) := Lib.hid ((B2.out.alloc (by omega) _).trans (hb3.mono (Nat.le_trans (by omega) (Nat.le_of_lt K3.out.lt))))
  have K2b := Lib.hid ((K2a.out.grow hb3).alloc (.cells #[.int .i64 0, .int .i64 0] 25))
  have K3b := Lib.hid ((K3.out.grow hb3).alloc (.cells #[.int .i64 0, .int .i64 0] 25))
  have z3 := (Blk.new w3 25 #[.int .i64 0, .int .i64 0]).lt
  clear hb3 c10 c11 c12 c13
  go_wp2_with fail
  refine (later_any _ _ _ _ _ _ _).mono ?_
  rw [v4.out.1, v4.out.2.1, v4.out.2.2]
  rintro e w4 ⟨rfl, hb4⟩
  have s4 : w3.heap.size < w4.heap.size := Nat.lt_of_lt_of_le z3 hb4.size
  have B4 : Hid (Below w.heap.size w w4) := Lib.hid ((B3.out.alloc (by omega) _).trans (hb4.mono (Nat.le_trans (by omega) (Nat.le_of_lt z3))))
  have K2c := Lib.hid ((K2b.out.grow hb4).alloc (.cells #[.int .i64 1050, .int .i64 2150] 25))
  have K3c := Lib.hid ((K3b.out.grow hb4).alloc (.cells #[.int .i64 1050, .int .i64 2150] 25))
  have K4 := Lib.hid (Blk.new w4 25 #[.int .i64 1050, .int .i64 2150])
  clear hb4
  go_wp2_with fail
  refine (full_any _ _ _ _ _ _).mono ?_
  rw [v5.out]
  rintro e w5 ⟨rfl, hb5⟩
  have B5 : Hid (Below w.heap.size w w5) := Lib.hid ((B4.out.alloc (by omega) _).trans (hb5.mono (Nat.le_trans (by omega) (Nat.le_of_lt K4.out.lt))))
  have k2 := K2c.out.grow hb5
  have k3 := K3c.out.grow hb5
  have k4 := K4.out.grow hb5
  have c20 := k2.cell 0
  have c21 := k2.cell 1
  have c30 := k3.cell 0
  have c31 := k3.cell 1
  have c40 := k4.cell 0
  have c41 := k4.cell 1
  simp at c20 c21 c30 c31 c40 c41
  clear hb5 k2 k3 k4
  go_wp2
  go_ret
  exact ⟨rfl, B5.out⟩
end Go.Proofs.Ytopdcngplcoejaa
