/- DemandMakes: Make returns the demands or the error that the reference returns, for any case; the fixed examples hold. No condition. -/
import Derived.Test.YtpeidgfaejnhiaaAwake21
namespace Go.Proofs.Ytpeidgfaejnhiaa.demandMakes
open Go.ChangeShapes Go.WideShapes Go.ChangeAt Go.RowKit
set_option linter.unusedVariables false

set_option maxRecDepth 100000 in
set_option maxHeartbeats 1600000 in
theorem walk (w : World) (v0 : Value) (hv0 : IsCase w v0) :
    Calls Try.prog 3 #[v0] w fun e w' => e = .returned (.bool true) ∧ Below w.heap.size w w' := by
  obtain ⟨T, day, level, f, t, v, rfl, hIn, hd, _, _, _, _⟩ := hv0
  have K0 : Hid (Blk (w.alloc (.cells (T.xs day level f t v) 28)) w.heap.size 28 (T.xs day level f t v)) := Lib.hid (Blk.new _ _ _)
  have HB0 : Hid (Below w.heap.size w (w.alloc (.cells (T.xs day level f t v) 28))) := Lib.hid ((Below.refl _ w).alloc (Nat.le_refl _) _)
  have HIN := Lib.hid hIn
  have HD := Lib.hid hd
  clear hIn hd
  go_enter Try.func3, Try.ntmps3
  go_wp2_with fail
  refine (great_any (HIN.out.up HB0.out) day level f t v).mono ?_
  rintro e w1 ⟨b, rfl, hb1⟩
  have HB1 := Lib.hid (bthen HB0.out hb1 HB0.out.size)
  have K1 := Lib.hid (K0.out.grow hb1)
  clear hb1
  cases b
  · obtain ⟨q0, q1, q2, q3, q4, q5, q6, q7⟩ := casCells K1.out
    have z1 := K1.out.lt
    go_wp2_with fail
    refine (made_any (HIN.out.up HB1.out) day level f t v HD.out).mono ?_
    obtain ⟨L, hL⟩ : ∃ L, makL T.C T.S T.F day level f t v = L := ⟨_, rfl⟩
    obtain ⟨E, hE⟩ : ∃ E, makE T.C T.S T.F day level f t v = E := ⟨_, rfl⟩
    have HL := Lib.hid hL
    have HE := Lib.hid hE
    rw [hL, hE]
    clear hL hE
    rintro e w2 ⟨A, c, rfl, hcap, hr, hb2⟩
    have HR := Lib.hid hr
    have HB2 := Lib.hid (bthen HB1.out hb2 HB1.out.size)
    have K2 := Lib.hid (K1.out.grow hb2)
    clear q0 q1 q2 q3 q4 q5 q6 q7 hcap hr hb2
    obtain ⟨q0, q1, q2, q3, q4, q5, q6, q7⟩ := casCells K2.out
    have z2 := K2.out.lt
    go_wp2_with fail
    refine (rmake_any (HIN.out.up HB2.out) day level f t v).mono ?_
    rw [HL.out, HE.out]
    rintro e w3 ⟨B, c2, rfl, hcap, hr, hb3⟩
    have HR1 := Lib.hid (HR.out.up hb3)
    have HR2 := Lib.hid hr
    have HB3 := Lib.hid (bthen HB2.out hb3 HB2.out.size)
    clear q0 q1 q2 q3 q4 q5 q6 q7 hcap hr hb3
    by_cases hn : L.length ≤ maxLen
    · have HN := Lib.hid hn
      clear hn
      go_wp2_with fail
      refine (same_any HR1.out HR2.out HN.out).mono ?_
      rintro e w4 ⟨rfl, hb4⟩
      have HB4 := Lib.hid (bthen HB3.out hb4 HB3.out.size)
      clear hb4
      go_wp2_with fail
      refine (awake_any _).mono ?_
      rintro e w9 ⟨rfl, hb9⟩
      have HB := Lib.hid (bthen HB4.out hb9 HB4.out.size)
      clear hb9
      go_wp2
      go_ret
      exact ⟨rfl, HB.out⟩
    · exact absurd (by rw [← HL.out]; exact mak_len HIN.out.cn HIN.out.c.1) hn
  · go_wp2_with fail
    refine (awake_any _).mono ?_
    rintro e w9 ⟨rfl, hb9⟩
    have HB := Lib.hid (bthen HB1.out hb9 HB1.out.size)
    clear hb9
    go_wp2
    go_ret
    exact ⟨rfl, HB.out⟩

theorem own : ownKnob Try.prog.godebug = none := by kernel_rfl
theorem laidOut : laidOutB Try.prog = true := by kernel_rfl
set_option maxRecDepth 100000 in
theorem lifted (os : Os) (started : os.Started) (H : Type) (enc : TypeId × Value → H) :
    ReturnsInHanded {} Try.checked os 3 .any (Rows.demandMakesSpec.pre6 enc Try.prog Try.f3 Rows.demandMakesRow.domain false) (Rows.demandMakesSpec.post enc Try.prog Try.f3 false true false false) := by
  refine returnsInHanded_of_change (C := Try.checked) own started (by kernel_rfl) Try.func3
    (ChangeSpec.witness6 (enc := enc) (C := Try.checked) false ⟨#[], #[.agg #[.slice none 0 0, .slice none 0 0, .slice none 0 0, .int .i64 0, .int .i64 0, .int .i64 0, .int .i64 0, .int .i64 0]], []⟩ 8 (by kernel_rfl) (by kernel_rfl) (by kernel_rfl) (by kernel_rfl)) ?_
  intro W base args ds gs before hval0 hW hcnd _
  have hval : ∀ (j : Nat) t v, Try.f3.params[j]? = some t → args[j]? = some v → Value.okWide Try.prog W .any base t v := hval0
  have hW' := hW
  obtain ⟨p, q, hA0, hV, rfl, hfz, hnd⟩ := hW
  have hA : DataW.TrodAll enc Try.prog W 0 (fun _ => true) true Try.f3.params.toList args.toList ds p := hA0
  rw [Try.params3] at hA hval
  obtain ⟨v0, vs0, d0, ds0, p0, q0, hargs, rfl, rfl, h0, r0⟩ := trodAll_cons hA
  obtain ⟨rfl, rfl, rfl⟩ := trodAll_nil r0
  obtain rfl : args = #[v0] := by cases args; simp_all
  obtain ⟨rfl, rfl⟩ := trodVars_none hV
  have k0 := h0
  have lt0 : ∀ x ∈ p0, x.block < W.heap.size := by obtain ⟨m, hm⟩ := k0; exact DataW.trod_lt m _ _ _ hm
  have O0 := open_case W (hval 0 28 v0 rfl rfl) h0
  clear hA0 hval0
  refine (walk W v0 O0).mono fun e W' ⟨he, bel⟩ => ?_
  subst he
  exact ⟨_, rfl, _, _, _, [], _, [], hW', trodAll_mk1 (shut_bool Try.underlying4 _), (trodAll_cons_mk (Below.trod laidOut (by kernel_rfl) (of_decide_eq_true (by kernel_rfl)) k0 bel lt0) trodAll_mk0), rfl, bel.frame _, fun h => by cases h⟩
theorem over : Rows.demandMakesRow.holds Try.pinned (OpenSpec.ofChange Rows.demandMakesSpec) :=
  OpenClaim.holds_of_wide 3 Try.f3 rfl rfl rfl rfl rfl rfl rfl ⟨rfl, rfl, rfl, rfl, rfl⟩ rfl rfl rfl rfl rfl (by kernel_rfl) Try.func3 (by kernel_rfl)
    (of_decide_eq_true (by kernel_rfl)) (by unfold Func.isWrapper; first | (rw [if_pos (by decide +kernel)]; kernel_rfl) | (rw [if_neg (by decide +kernel)]; exact ⟨rfl, rfl⟩))
    (fun os started H enc _ => lifted os started H enc)
theorem proved : Rows.DemandMakesSaid := over
#print axioms proved

end Go.Proofs.Ytpeidgfaejnhiaa.demandMakes
