/- FillOver: after the seconds that Full returns the mass can exceed the limit, and one second earlier it cannot. No condition. -/
import Derived.Test.YtopdcngplcoejaaAwake16
import Derived.Test.YtopdcngplcoejaaOver
import Derived.Test.YtopdcngplcoejaaOpenS
namespace Go.Proofs.Ytopdcngplcoejaa.fillOver
open Go.ChangeShapes Go.WideShapes Go.ChangeAt Go.RowKit
set_option linter.unusedVariables false

set_option maxRecDepth 100000 in
set_option maxHeartbeats 1600000 in
theorem walk (w : World) (v0 : Value) (hv0 : IsInt2 .i64 v0) (v1 : Value) (hv1 : IsInt2 .i64 v1) (v2 : Value) (hv2 : IsInt .i64 v2) :
    Calls Try.prog 8 #[v0, v1, v2] w fun e w' => e = .returned (.bool true) ∧ Below w.heap.size w w' := by
  obtain ⟨lo, hi, rfl, _, _⟩ := hv0
  obtain ⟨mn, mx, rfl, _, _⟩ := hv1
  obtain ⟨lim, rfl, _⟩ := hv2
  have ho := over (lo := lo) (hi := hi) (mn := mn) (mx := mx) (lim := lim)
  obtain ⟨n, s, hV⟩ : ∃ n s, fullV lo hi mn mx lim = (n, s) := ⟨_, _, rfl⟩
  rw [hV] at ho
  simp only at ho
  have HV := Lib.hid hV
  clear hV
  rcases ho with (rfl | ⟨ha, hb⟩) | ⟨h1, rfl, h2, h3, h4⟩ | ⟨h1, rfl, h2, h3⟩
  · go_enter Try.func8, Try.ntmps8
    go_wp2_with fail
    have hb0 : Below w.heap.size w ((w.alloc (.cells #[.int .i64 lo, .int .i64 hi] 25)).alloc (.cells #[.int .i64 mn, .int .i64 mx] 37)) := by go_grown
    have k0 := ((Blk.new w 25 #[.int .i64 lo, .int .i64 hi]).alloc (.cells #[.int .i64 mn, .int .i64 mx] 37))
    have k1 := (Blk.new1 w (.cells #[.int .i64 lo, .int .i64 hi] 25) 37 #[.int .i64 mn, .int .i64 mx])
    have z0 := k1.lt
    refine (full_any _ _ _ _ _ _).mono ?_
    rw [HV.out]
    rintro e w1 ⟨rfl, hb1⟩
    have s1 := hb1.size
    have B1 := Lib.hid (hb0.trans (hb1.mono (by omega)))
    have K0 := Lib.hid (k0.grow hb1)
    have K1 := Lib.hid (k1.grow hb1)
    clear hb0 hb1 k0 k1
    go_wp2_with fail
    refine (awake_any _).mono ?_
    rintro e w9 ⟨rfl, hb9⟩
    have BX := Lib.hid (B1.out.trans (hb9.mono (by first | omega | (simp; omega))))
    clear hb9
    go_wp2
    go_ret
    exact ⟨rfl, BX.out⟩
  · have hne : (s == 1) = false := by simpa using ha
    clear ha
    go_enter Try.func8, Try.ntmps8
    go_wp2_with fail
    have hb0 : Below w.heap.size w ((w.alloc (.cells #[.int .i64 lo, .int .i64 hi] 25)).alloc (.cells #[.int .i64 mn, .int .i64 mx] 37)) := by go_grown
    have k0 := ((Blk.new w 25 #[.int .i64 lo, .int .i64 hi]).alloc (.cells #[.int .i64 mn, .int .i64 mx] 37))
    have k1 := (Blk.new1 w (.cells #[.int .i64 lo, .int .i64 hi] 25) 37 #[.int .i64 mn, .int .i64 mx])
    have z0 := k1.lt
    refine (full_any _ _ _ _ _ _).mono ?_
    rw [HV.out]
    rintro e w1 ⟨rfl, hb1⟩
    have s1 := hb1.size
    have B1 := Lib.hid (hb0.trans (hb1.mono (by omega)))
    have K0 := Lib.hid (k0.grow hb1)
    have K1 := Lib.hid (k1.grow hb1)
    clear hb0 hb1 k0 k1
    go_wp2_with fail
    refine (awake_any _).mono ?_
    rintro e w9 ⟨rfl, hb9⟩
    have BX := Lib.hid (B1.out.trans (hb9.mono (by first | omega | (simp; omega))))
    clear hb9
    go_wp2
    go_ret
    exact ⟨rfl, BX.out⟩
  · rcases h4 with rfl | ⟨g1, g2, g3, g4⟩
    all_goals
      have H2 := Lib.hid h2
      clear h2
    · go_enter Try.func8, Try.ntmps8
      go_wp2_with fail
      have hb0 : Below w.heap.size w ((w.alloc (.cells #[.int .i64 lo, .int .i64 hi] 25)).alloc (.cells #[.int .i64 mn, .int .i64 mx] 37)) := by go_grown
      have k0 := ((Blk.new w 25 #[.int .i64 lo, .int .i64 hi]).alloc (.cells #[.int .i64 mn, .int .i64 mx] 37))
      have k1 := (Blk.new1 w (.cells #[.int .i64 lo, .int .i64 hi] 25) 37 #[.int .i64 mn, .int .i64 mx])
      have z0 := k1.lt
      refine (full_any _ _ _ _ _ _).mono ?_
      rw [HV.out]
      rintro e w1 ⟨rfl, hb1⟩
      have s1 := hb1.size
      have B1 := Lib.hid (hb0.trans (hb1.mono (by omega)))
      have K0 := Lib.hid (k0.grow hb1)
      have K1 := Lib.hid (k1.grow hb1)
      clear hb0 hb1 k0 k1
      have cK00 := K0.out.cell 0
      have cK01 := K0.out.cell 1
      have cK10 := K1.out.cell 0
      have cK11 := K1.out.cell 1
      simp at cK00 cK01 cK10 cK11
      go_wp2_with fail
      refine (later_any _ _ _ _ _ _ _).mono ?_
      rw [H2.out]
      rintro e w2 ⟨rfl, hb2⟩
      have s2 := hb2.size
      have B2 := Lib.hid (B1.out.trans (hb2.mono (by first | omega | (simp; omega))))
      clear cK00 cK01 cK10 cK11
      have K0a := Lib.hid ((K0.out.grow hb2).alloc (.cells #[.int .i64 (laterLo lo hi mn mx 0 1073741824), .int .i64 (laterHi lo hi mn mx 0 1073741824)] 25))
      have K1a := Lib.hid ((K1.out.grow hb2).alloc (.cells #[.int .i64 (laterLo lo hi mn mx 0 1073741824), .int .i64 (laterHi lo hi mn mx 0 1073741824)] 25))
      have KX := Lib.hid (Blk.new w2 25 #[.int .i64 (laterLo lo hi mn mx 0 1073741824), .int .i64 (laterHi lo hi mn mx 0 1073741824)])
      have zx2 := KX.out.lt
      clear hb2
      have cKX0 := KX.out.cell 0
      have cKX1 := KX.out.cell 1
      simp at cKX0 cKX1
      go_wp2_with fail
      refine (awake_any _).mono ?_
      rintro e w9 ⟨rfl, hb9⟩
      have BX := Lib.hid ((B2.out.alloc (by omega) (.cells #[.int .i64 (laterLo lo hi mn mx 0 1073741824), .int .i64 (laterHi lo hi mn mx 0 1073741824)] 25)).trans (hb9.mono (by first | omega | (simp; omega))))
      clear hb9
      go_wp2
      go_ret
      exact ⟨rfl, BX.out⟩
    · have H3 := Lib.hid g3
      clear g3
      go_enter Try.func8, Try.ntmps8
      go_wp2_with fail
      have hb0 : Below w.heap.size w ((w.alloc (.cells #[.int .i64 lo, .int .i64 hi] 25)).alloc (.cells #[.int .i64 mn, .int .i64 mx] 37)) := by go_grown
      have k0 := ((Blk.new w 25 #[.int .i64 lo, .int .i64 hi]).alloc (.cells #[.int .i64 mn, .int .i64 mx] 37))
      have k1 := (Blk.new1 w (.cells #[.int .i64 lo, .int .i64 hi] 25) 37 #[.int .i64 mn, .int .i64 mx])
      have z0 := k1.lt
      refine (full_any _ _ _ _ _ _).mono ?_
      rw [HV.out]
      rintro e w1 ⟨rfl, hb1⟩
      have s1 := hb1.size
      have B1 := Lib.hid (hb0.trans (hb1.mono (by omega)))
      have K0 := Lib.hid (k0.grow hb1)
      have K1 := Lib.hid (k1.grow hb1)
      clear hb0 hb1 k0 k1
      have cK00 := K0.out.cell 0
      have cK01 := K0.out.cell 1
      have cK10 := K1.out.cell 0
      have cK11 := K1.out.cell 1
      simp at cK00 cK01 cK10 cK11
      go_wp2_with fail
      refine (later_any _ _ _ _ _ _ _).mono ?_
      rw [H2.out]
      rintro e w2 ⟨rfl, hb2⟩
      have s2 := hb2.size
      have B2 := Lib.hid (B1.out.trans (hb2.mono (by first | omega | (simp; omega))))
      clear cK00 cK01 cK10 cK11
      have K0a := Lib.hid ((K0.out.grow hb2).alloc (.cells #[.int .i64 (laterLo lo hi mn mx n 1073741824), .int .i64 (laterHi lo hi mn mx n 1073741824)] 25))
      have K1a := Lib.hid ((K1.out.grow hb2).alloc (.cells #[.int .i64 (laterLo lo hi mn mx n 1073741824), .int .i64 (laterHi lo hi mn mx n 1073741824)] 25))
      have KX := Lib.hid (Blk.new w2 25 #[.int .i64 (laterLo lo hi mn mx n 1073741824), .int .i64 (laterHi lo hi mn mx n 1073741824)])
      have zx2 := KX.out.lt
      clear hb2
      have cKX0 := KX.out.cell 0
      have cKX1 := KX.out.cell 1
      simp at cKX0 cKX1
      have cK0a0 := K0a.out.cell 0
      have cK0a1 := K0a.out.cell 1
      have cK1a0 := K1a.out.cell 0
      have cK1a1 := K1a.out.cell 1
      simp at cK0a0 cK0a1 cK1a0 cK1a1
      go_wp2_with fail
      refine (later_any _ _ _ _ _ _ _).mono ?_
      rw [H3.out]
      rintro e w3 ⟨rfl, hb3⟩
      have s3 := hb3.size
      have B3 := Lib.hid ((B2.out.alloc (by omega) (.cells #[.int .i64 (laterLo lo hi mn mx n 1073741824), .int .i64 (laterHi lo hi mn mx n 1073741824)] 25)).trans (hb3.mono (by first | omega | (simp; omega))))
      clear cK0a0 cK0a1 cK1a0 cK1a1
      have K0a := Lib.hid ((K0a.out.grow hb3).alloc (.cells #[.int .i64 (laterLo lo hi mn mx (n - 1) 1073741824), .int .i64 (laterHi lo hi mn mx (n - 1) 1073741824)] 25))
      have K1a := Lib.hid ((K1a.out.grow hb3).alloc (.cells #[.int .i64 (laterLo lo hi mn mx (n - 1) 1073741824), .int .i64 (laterHi lo hi mn mx (n - 1) 1073741824)] 25))
      have KX := Lib.hid (Blk.new w3 25 #[.int .i64 (laterLo lo hi mn mx (n - 1) 1073741824), .int .i64 (laterHi lo hi mn mx (n - 1) 1073741824)])
      have zx3 := KX.out.lt
      clear hb3
      have cKX0 := KX.out.cell 0
      have cKX1 := KX.out.cell 1
      simp at cKX0 cKX1
      go_wp2_with fail
      refine (awake_any _).mono ?_
      rintro e w9 ⟨rfl, hb9⟩
      have BX := Lib.hid ((B3.out.alloc (by omega) (.cells #[.int .i64 (laterLo lo hi mn mx (n - 1) 1073741824), .int .i64 (laterHi lo hi mn mx (n - 1) 1073741824)] 25)).trans (hb9.mono (by first | omega | (simp; omega))))
      clear hb9
      go_wp2
      go_ret
      exact ⟨rfl, BX.out⟩
  · have H2 := Lib.hid h2
    clear h2
    go_enter Try.func8, Try.ntmps8
    go_wp2_with fail
    have hb0 : Below w.heap.size w ((w.alloc (.cells #[.int .i64 lo, .int .i64 hi] 25)).alloc (.cells #[.int .i64 mn, .int .i64 mx] 37)) := by go_grown
    have k0 := ((Blk.new w 25 #[.int .i64 lo, .int .i64 hi]).alloc (.cells #[.int .i64 mn, .int .i64 mx] 37))
    have k1 := (Blk.new1 w (.cells #[.int .i64 lo, .int .i64 hi] 25) 37 #[.int .i64 mn, .int .i64 mx])
    have z0 := k1.lt
    refine (full_any _ _ _ _ _ _).mono ?_
    rw [HV.out]
    rintro e w1 ⟨rfl, hb1⟩
    have s1 := hb1.size
    have B1 := Lib.hid (hb0.trans (hb1.mono (by omega)))
    have K0 := Lib.hid (k0.grow hb1)
    have K1 := Lib.hid (k1.grow hb1)
    clear hb0 hb1 k0 k1
    have cK00 := K0.out.cell 0
    have cK01 := K0.out.cell 1
    have cK10 := K1.out.cell 0
    have cK11 := K1.out.cell 1
    simp at cK00 cK01 cK10 cK11
    go_wp2_with fail
    refine (later_any _ _ _ _ _ _ _).mono ?_
    rw [H2.out]
    rintro e w2 ⟨rfl, hb2⟩
    have s2 := hb2.size
    have B2 := Lib.hid (B1.out.trans (hb2.mono (by first | omega | (simp; omega))))
    clear cK00 cK01 cK10 cK11
    have K0a := Lib.hid ((K0.out.grow hb2).alloc (.cells #[.int .i64 (laterLo lo hi mn mx 3155759999 1073741824), .int .i64 (laterHi lo hi mn mx 3155759999 1073741824)] 25))
    have K1a := Lib.hid ((K1.out.grow hb2).alloc (.cells #[.int .i64 (laterLo lo hi mn mx 3155759999 1073741824), .int .i64 (laterHi lo hi mn mx 3155759999 1073741824)] 25))
    have KX := Lib.hid (Blk.new w2 25 #[.int .i64 (laterLo lo hi mn mx 3155759999 1073741824), .int .i64 (laterHi lo hi mn mx 3155759999 1073741824)])
    have zx2 := KX.out.lt
    clear hb2
    have cKX0 := KX.out.cell 0
    have cKX1 := KX.out.cell 1
    simp at cKX0 cKX1
    go_wp2_with fail
    refine (awake_any _).mono ?_
    rintro e w9 ⟨rfl, hb9⟩
    have BX := Lib.hid ((B2.out.alloc (by omega) (.cells #[.int .i64 (laterLo lo hi mn mx 3155759999 1073741824), .int .i64 (laterHi lo hi mn mx 3155759999 1073741824)] 25)).trans (hb9.mono (by first | omega | (simp; omega))))
    clear hb9
    go_wp2
    go_ret
    exact ⟨rfl, BX.out⟩

theorem own : ownKnob Try.prog.godebug = none := by kernel_rfl
theorem laidOut : laidOutB Try.prog = true := by kernel_rfl
set_option maxRecDepth 100000 in
theorem lifted (os : Os) (started : os.Started) (H : Type) (enc : TypeId × Value → H) :
    ReturnsInHanded {} Try.checked os 8 .any (Rows.fillOverSpec.pre6 enc Try.prog Try.f8 Rows.fillOverRow.domain false) (Rows.fillOverSpec.post enc Try.prog Try.f8 false true false false) := by
  refine returnsInHanded_of_change (C := Try.checked) own started (by kernel_rfl) Try.func8
    (ChangeSpec.witness6 (enc := enc) (C := Try.checked) false ⟨#[], #[.agg #[.int .i64 0, .int .i64 0], .agg #[.int .i64 0, .int .i64 0], .int .i64 0], []⟩ 8 (by kernel_rfl) (by kernel_rfl) (by kernel_rfl) (by kernel_rfl)) ?_
  intro W base args ds gs before hval0 hW hcnd _
  have hval : ∀ (j : Nat) t v, Try.f8.params[j]? = some t → args[j]? = some v → Value.okWide Try.prog W .any base t v := hval0
  have hW' := hW
  obtain ⟨p, q, hA0, hV, rfl, hfz, hnd⟩ := hW
  have hA : DataW.TrodAll enc Try.prog W 0 (fun _ => true) true Try.f8.params.toList args.toList ds p := hA0
  rw [Try.params8] at hA hval
  obtain ⟨v0, vs0, d0, ds0, p0, q0, hargs, rfl, rfl, h0, r0⟩ := trodAll_cons hA
  obtain ⟨v1, vs1, d1, ds1, p1, q1, rfl, rfl, rfl, h1, r1⟩ := trodAll_cons r0
  obtain ⟨v2, vs2, d2, ds2, p2, q2, rfl, rfl, rfl, h2, r2⟩ := trodAll_cons r1
  obtain ⟨rfl, rfl, rfl⟩ := trodAll_nil r2
  obtain rfl : args = #[v0, v1, v2] := by cases args; simp_all
  obtain ⟨rfl, rfl⟩ := trodVars_none hV
  have k0 := h0
  have lt0 : ∀ x ∈ p0, x.block < W.heap.size := by obtain ⟨m, hm⟩ := k0; exact DataW.trod_lt m _ _ _ hm
  have O0 := open_span W (hval 0 25 v0 rfl rfl) h0
  have k1 := h1
  have lt1 : ∀ x ∈ p1, x.block < W.heap.size := by obtain ⟨m, hm⟩ := k1; exact DataW.trod_lt m _ _ _ hm
  have O1 := open_rate W (hval 1 37 v1 rfl rfl) h1
  have k2 := h2
  have lt2 : ∀ x ∈ p2, x.block < W.heap.size := by obtain ⟨m, hm⟩ := k2; exact DataW.trod_lt m _ _ _ hm
  have O2 := open_int W (hval 2 3 v2 rfl rfl) h2
  clear hA0 hval0
  refine (walk W v0 O0 v1 O1 v2 O2).mono fun e W' ⟨he, bel⟩ => ?_
  subst he
  exact ⟨_, rfl, _, _, _, [], _, [], hW', trodAll_mk1 (shut_bool Try.underlying4 _), (trodAll_cons_mk (Below.trod laidOut (by kernel_rfl) (of_decide_eq_true (by kernel_rfl)) k0 bel lt0) (trodAll_cons_mk (Below.trod laidOut (by kernel_rfl) (of_decide_eq_true (by kernel_rfl)) k1 bel lt1) (trodAll_cons_mk (Below.trod laidOut (by kernel_rfl) (of_decide_eq_true (by kernel_rfl)) k2 bel lt2) trodAll_mk0))), rfl, bel.frame _, fun h => by cases h⟩
theorem over : Rows.fillOverRow.holds Try.pinned (OpenSpec.ofChange Rows.fillOverSpec) :=
  OpenClaim.holds_of_wide 8 Try.f8 rfl rfl rfl rfl rfl rfl rfl ⟨rfl, rfl, rfl, rfl, rfl⟩ rfl rfl rfl rfl rfl (by kernel_rfl) Try.func8 (by kernel_rfl)
    (of_decide_eq_true (by kernel_rfl)) (by unfold Func.isWrapper; first | (rw [if_pos (by decide +kernel)]; kernel_rfl) | (rw [if_neg (by decide +kernel)]; exact ⟨rfl, rfl⟩))
    (fun os started H enc _ => lifted os started H enc)
theorem proved : Rows.FillOverSaid := over
#print axioms proved

end Go.Proofs.Ytopdcngplcoejaa.fillOver
