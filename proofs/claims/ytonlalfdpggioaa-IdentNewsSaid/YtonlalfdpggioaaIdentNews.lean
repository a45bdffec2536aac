/- IdentNews: for any strings (if they are few and short), New returns the same table or error as the reference; the fixed examples hold. No condition. -/
import Derived.Test.YtonlalfdpggioaaSame
import Derived.Test.YtonlalfdpggioaaOpen
namespace Go.Proofs.Ytonlalfdpggioaa.identNews
open Go.ChangeShapes Go.WideShapes Go.ChangeAt Go.RowKit Go.Maps
set_option linter.unusedVariables false

set_option maxHeartbeats 800000 in
theorem walk (w : World) (v : Value) (hv : IsStrs w v) :
    Calls Try.prog 4 #[v] w fun e w' => e = .returned (.bool true) ∧ Below w.heap.size w w' := by
  obtain ⟨A, n, c, ss, rfl, hr, hn, hsz⟩ := hv
  have hlen : ss.length = n := by rw [← strs_length]; exact hr.1
  have HR := Lib.hid hr
  have HSZ := Lib.hid hsz
  have HS := Lib.hid (short_any (c := c) hr 60 hn hsz)
  cases hb : shortB ss 60
  · rw [hb] at HS
    clear hr hsz hlen hb
    go_enter Try.func4, Try.ntmps4
    go_wp2_with fail
    refine HS.out.mono ?_
    rintro e w1 ⟨rfl, rfl⟩
    go_wp2_with fail
    refine (awake_any _).mono ?_
    rintro e w1 ⟨rfl, hb1⟩
    go_wp2
    go_ret
    exact ⟨rfl, hb1⟩
  · rw [hb] at HS
    have hn60 : n ≤ 60 := by have := shortB_len hb; omega
    have HLEN := Lib.hid hlen
    by_cases hE : newE [] ss = 0
    · have HE := Lib.hid hE
      clear hr hsz hlen hb hE
      go_enter Try.func4, Try.ntmps4
      go_wp2_with fail
      refine HS.out.mono ?_
      rintro e w1 ⟨rfl, rfl⟩
      go_wp2_with fail
      refine (new_ok HR.out (by omega) HSZ.out HE.out).mono ?_
      rintro e w1 ⟨tb, mb, r, rfl, ht, hb1⟩
      have HB1 := Lib.hid hb1
      have HR1 := Lib.hid (HR.out.up hb1)
      clear hb1
      go_wp2_with fail
      refine (rnew_ok HR1.out (by omega) HSZ.out HE.out).mono ?_
      rintro e w2 ⟨A', c', rfl, hst, hb2⟩
      have HB2 := Lib.hid hb2
      have HT2 := Lib.hid (ht.grow hb2)
      have HST := Lib.hid hst
      clear hb2 ht hst
      go_wp2_with fail
      have hb3 : Below w2.heap.size w2 (w2.alloc (.cells #[.slice A' ss.length c'] 31)) := (Below.refl _ _).alloc (Nat.le_refl _) _
      refine (same_any (HT2.out.grow hb3) (HST.out.grow hb3) (by rw [HLEN.out]; omega) HSZ.out).mono ?_
      rintro e w4 ⟨rfl, hb4⟩
      have HB4 := Lib.hid (hb3.trans (hb4.mono (by simp)))
      clear hb3 hb4
      go_wp2_with fail
      refine (awake_any _).mono ?_
      rintro e w5 ⟨rfl, hb5⟩
      have HB5 := Lib.hid hb5
      clear hb5
      go_wp2
      go_ret
      have s1 := HB1.out.size
      have s2 := HB2.out.size
      have s4 := HB4.out.size
      exact ⟨rfl, HB1.out.trans ((HB2.out.mono (by omega)).trans ((HB4.out.mono (by omega)).trans (HB5.out.mono (by omega))))⟩
    · have HE := Lib.hid hE
      have hne : (newE [] ss != 0) = true := by rw [bne_iff_ne]; exact hE
      have hne2 : (newE [] ss != newE [] ss) = false := by simp
      generalize hg : newE [] ss = E at *
      clear hr hsz hlen hb hE
      go_enter Try.func4, Try.ntmps4
      go_wp2_with fail
      refine HS.out.mono ?_
      rintro e w1 ⟨rfl, rfl⟩
      go_wp2_with fail
      refine (new_err HR.out (by omega) HSZ.out (by rw [hg]; exact HE.out)).mono ?_
      rw [hg]
      rintro e w1 ⟨rfl, hb1⟩
      have HB1 := Lib.hid hb1
      have HR1 := Lib.hid (HR.out.up hb1)
      clear hb1
      go_wp2_with fail
      refine (rnew_err HR1.out (by omega) HSZ.out (by rw [hg]; exact HE.out)).mono ?_
      rw [hg]
      rintro e w2 ⟨rfl, hb2⟩
      have HB2 := Lib.hid hb2
      clear hb2
      go_wp2_with fail
      refine (awake_any _).mono ?_
      rintro e w5 ⟨rfl, hb5⟩
      have HB5 := Lib.hid hb5
      clear hb5
      go_wp2
      go_ret
      have s1 := HB1.out.size
      have s2 := HB2.out.size
      exact ⟨rfl, HB1.out.trans ((HB2.out.mono (by omega)).trans (((Below.refl _ _).alloc (by omega) _).trans (HB5.out.mono (by simp; omega))))⟩

theorem own : ownKnob Try.prog.godebug = none := by kernel_rfl
theorem laidOut : laidOutB Try.prog = true := by kernel_rfl
set_option maxRecDepth 100000 in
theorem lifted (os : Os) (started : os.Started) (H : Type) (enc : TypeId × Value → H) :
    ReturnsInHanded {} Try.checked os 4 .any (Rows.identNewsSpec.pre6 enc Try.prog Try.f4 Rows.identNewsRow.domain false) (Rows.identNewsSpec.post enc Try.prog Try.f4 false true false false) := by
  refine returnsInHanded_of_change (C := Try.checked) own started (by kernel_rfl) Try.func4
    (ChangeSpec.witness6 (enc := enc) (C := Try.checked) false ⟨#[], #[.slice none 0 0], []⟩ 8 (by kernel_rfl) (by kernel_rfl) (by kernel_rfl) (by kernel_rfl)) ?_
  intro W base args ds gs before hval0 hW hcnd _
  have hval : ∀ (j : Nat) t v, Try.f4.params[j]? = some t → args[j]? = some v → Value.okWide Try.prog W .any base t v := hval0
  have hW' := hW
  obtain ⟨p, q, hA0, hV, rfl, hfz, hnd⟩ := hW
  have hA : DataW.TrodAll enc Try.prog W 0 (fun _ => true) true Try.f4.params.toList args.toList ds p := hA0
  rw [Try.params4] at hA hval
  obtain ⟨v0, vs0, d0, ds0, p0, q0, hargs, rfl, rfl, h0, r0⟩ := trodAll_cons hA
  obtain ⟨rfl, rfl, rfl⟩ := trodAll_nil r0
  obtain rfl : args = #[v0] := by cases args; simp_all
  obtain ⟨rfl, rfl⟩ := trodVars_none hV
  have k0 := h0
  have lt0 : ∀ x ∈ p0, x.block < W.heap.size := by obtain ⟨m, hm⟩ := k0; exact DataW.trod_lt m _ _ _ hm
  have O0 := open_strs W (hval 0 24 v0 rfl rfl) h0
  clear hA0 hval0
  refine (walk W v0 O0).mono fun e W' ⟨he, bel⟩ => ?_
  subst he
  exact ⟨_, rfl, _, _, _, [], _, [], hW', trodAll_mk1 (shut_bool Try.underlying4 _), (trodAll_cons_mk (Below.trod laidOut (by kernel_rfl) (of_decide_eq_true (by kernel_rfl)) k0 bel lt0) trodAll_mk0), rfl, bel.frame _, fun h => by cases h⟩
theorem over : Rows.identNewsRow.holds Try.pinned (OpenSpec.ofChange Rows.identNewsSpec) :=
  OpenClaim.holds_of_wide 4 Try.f4 rfl rfl rfl rfl rfl rfl rfl ⟨rfl, rfl, rfl, rfl, rfl⟩ rfl rfl rfl rfl rfl (by kernel_rfl) Try.func4 (by kernel_rfl)
    (of_decide_eq_true (by kernel_rfl)) (by unfold Func.isWrapper; first | (rw [if_pos (by decide +kernel)]; kernel_rfl) | (rw [if_neg (by decide +kernel)]; exact ⟨rfl, rfl⟩))
    (fun os started H enc _ => lifted os started H enc)
theorem proved : Rows.IdentNewsSaid := over
#print axioms proved

end Go.Proofs.Ytonlalfdpggioaa.identNews
