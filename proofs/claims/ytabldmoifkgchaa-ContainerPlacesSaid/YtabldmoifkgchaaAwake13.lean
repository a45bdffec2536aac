/- The fixed examples of chapter 13 hold: 'awake' returns true, and leaves all old memory as it is. -/
import Derived.Test.YtabldmoifkgchaaConL
namespace Go.Proofs.Ytabldmoifkgchaa
open Go.RowKit

abbrev exC : Con := ⟨⟨#[99, 49]⟩, 0, 240, 3000, 0⟩
abbrev exA : Con := ⟨⟨#[97]⟩, 0, 0, 0, 0⟩
set_option maxRecDepth 100000 in
set_option maxHeartbeats 1600000 in
theorem awake_any (w : World) : Calls Try.prog 12 #[] w fun e w' => e = .returned (.bool true) ∧ Below w.heap.size w w' := by
  have v1 : Hid (levV 3000 1 = 1 ∧ levE 3000 1 = 0) := Lib.hid (by decide +kernel)
  have v2 : Hid (levV 3000 9999 = 1000 ∧ levE 3000 9999 = 0) := Lib.hid (by decide +kernel)
  have v3 : Hid (graV 3000 500 = 1500 ∧ graE 3000 500 = 0) := Lib.hid (by decide +kernel)
  have v4 : Hid (findV [exA, exC] ⟨#[99, 49]⟩ = 1 ∧ findB [exA, exC] ⟨#[99, 49]⟩ = true) := Lib.hid (by decide +kernel)
  have v5 : Hid (chkL [exC, exC] 1 1 = 6) := Lib.hid (by decide +kernel)
  go_enter Try.func12, Try.ntmps12
  go_wp2_with fail
  refine (level_any exC 1 _).mono ?_
  rw [v1.out.1, v1.out.2]
  rintro e w1 ⟨rfl, rfl⟩
  go_wp2_with fail
  refine (level_any exC 9999 _).mono ?_
  rw [v2.out.1, v2.out.2]
  rintro e w1 ⟨rfl, rfl⟩
  go_wp2_with fail
  refine (grams_any exC 500 _).mono ?_
  rw [v3.out.1, v3.out.2]
  rintro e w1 ⟨rfl, rfl⟩
  have k0 := (((Blk.new w 29 exC.vs).alloc (.cells exC.vs 29)).alloc (.cells exC.vs 29)).alloc (.cells exC.vs 29)
  have hb0 : Below w.heap.size w ((((w.alloc (.cells exC.vs 29)).alloc (.cells exC.vs 29)).alloc (.cells exC.vs 29)).alloc (.cells exC.vs 29)) := by go_grown
  obtain ⟨w0, hw0⟩ : ∃ w0, ((((w.alloc (.cells exC.vs 29)).alloc (.cells exC.vs 29)).alloc (.cells exC.vs 29)).alloc (.cells exC.vs 29)) = w0 := ⟨_, rfl⟩
  rw [hw0] at k0 hb0 ⊢
  have c0 := k0.cell 0
  have c1 := k0.cell 1
  have c2 := k0.cell 2
  have c3 := k0.cell 3
  have c4 := k0.cell 4
  simp at c0 c1 c2 c3 c4
  clear hw0
  go_wp2_with fail
  refine (find_any (c := 2) (id := ⟨#[99, 49]⟩) (RdT.lit w0 (f := Con.cs) (s := 5) (fun _ => rfl) [exA, exC] #[.string ⟨#[97]⟩, .int .i64 0, .int .i64 0, .int .i64 0, .int .i64 0, .string ⟨#[99, 49]⟩, .int .i64 0, .int .i64 240, .int .i64 3000, .int .i64 0] 29 rfl) (by decide)).mono ?_
  rw [v4.out.1, v4.out.2]
  rintro e w2 ⟨rfl, hb2⟩
  have z0 := k0.lt
  have k2 := (k0.alloc (.cells #[.string ⟨#[97]⟩, .int .i64 0, .int .i64 0, .int .i64 0, .int .i64 0, .string ⟨#[99, 49]⟩, .int .i64 0, .int .i64 240, .int .i64 3000, .int .i64 0] 29)).grow hb2
  have hb3 := Lib.hid ((hb0.alloc (Nat.le_of_lt z0) _).trans (hb2.mono (by simp; omega)))
  clear c0 c1 c2 c3 c4 hb0 hb2 k0
  have c0 := k2.cell 0
  have c1 := k2.cell 1
  have c2 := k2.cell 2
  have c3 := k2.cell 3
  have c4 := k2.cell 4
  have z2 := k2.lt
  simp at c0 c1 c2 c3 c4
  clear k2
  go_wp2_with fail
  refine (check_any (c := 2) (m := 1) (q := 1) (RdT.lit w2 (f := Con.cs) (s := 5) (fun _ => rfl) [exC, exC] #[.string ⟨#[99, 49]⟩, .int .i64 0, .int .i64 240, .int .i64 3000, .int .i64 0, .string ⟨#[99, 49]⟩, .int .i64 0, .int .i64 240, .int .i64 3000, .int .i64 0] 29 rfl) (by decide) (by intro x hx; simp at hx; subst hx; decide +kernel)).mono ?_
  rw [v5.out]
  rintro e w3 ⟨rfl, hb4⟩
  have hb5 := Lib.hid ((hb3.out.alloc hb3.out.size _).trans (hb4.mono (by have := hb3.out.size; simp; omega)))
  clear hb4
  go_wp2
  go_ret
  exact ⟨rfl, hb5.out⟩
end Go.Proofs.Ytabldmoifkgchaa
