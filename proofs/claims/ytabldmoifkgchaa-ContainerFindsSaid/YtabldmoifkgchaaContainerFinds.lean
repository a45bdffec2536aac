/- ContainerFinds: which container of any list has an ID, and which are at a node (at most 300 containers), as the reference has it; the fixed examples hold. No condition. -/
import Derived.Test.YtabldmoifkgchaaAwake13
import Derived.Test.YtabldmoifkgchaaOpenC
import Derived.Deep.RegionWith
import Derived.Deep.DeepCutAuto
namespace Go.Proofs.Ytabldmoifkgchaa.containerFinds
open Go.ChangeShapes Go.WideShapes Go.ChangeAt Go.RowKit
set_option linter.unusedVariables false

set_option maxRecDepth 100000 in
set_option maxHeartbeats 1600000 in
theorem walk (w : World) (v0 : Value) (hv0 : IsCons w v0) (v1 : Value) (hv1 : IsStr v1) (v2 : Value) (hv2 : IsInt .i64 v2) :
    Calls Try.prog 9 #[v0, v1, v2] w fun e w' => e = .returned (.bool true) ∧ Below w.heap.size w w' := by
  obtain ⟨A, n, c, L, rfl, hr, hn, hnc, hok⟩ := hv0
  obtain ⟨id, rfl, _⟩ := hv1
  obtain ⟨q, rfl, _⟩ := hv2
  have hsz : ∀ x ∈ L, x.id.size ≤ maxLen := fun x hx => (hok x hx).1
  have HR := Lib.hid hr
  have HSZ := Lib.hid hsz
  have HN := Lib.hid hn
  clear hr hsz hok hn hnc
  cases hb : largeB L
  · have HBL := Lib.hid hb
    clear hb
    go_enter Try.func9, Try.ntmps9
    go_wp2_with fail
    refine (large_any HR.out HN.out HSZ.out).mono ?_
    rw [HBL.out]
    rintro e w1 ⟨rfl, hb1⟩
    have HB1 := Lib.hid hb1
    have HR1 := Lib.hid (HR.out.up hb1)
    clear hb1
    go_wp2_with fail
    refine (find_any HR1.out HN.out).mono ?_
    rintro e w2 ⟨rfl, hb2⟩
    have HB2 := Lib.hid (HB1.out.trans (hb2.mono HB1.out.size))
    have HR2 := Lib.hid (HR1.out.up hb2)
    clear hb2
    go_wp2_with fail
    refine (rfind_any HR2.out HN.out).mono ?_
    rintro e w3 ⟨rfl, hb3⟩
    have HB3 := Lib.hid (HB2.out.trans (hb3.mono HB2.out.size))
    have HR3 := Lib.hid (HR2.out.up hb3)
    clear hb3
    have hn3 : n ≤ 1099511627776 := by
      have h1 := (largeB_false HBL.out).1
      rw [HR.out.1] at h1
      omega
    have HN3 := Lib.hid hn3
    clear hn3
    go_wp2_with fail
    refine (at_any (c := c) HR3.out HN3.out q).mono ?_
    rintro e w4 ⟨A4, c4, rfl, hr4, hb4⟩
    have HB4 := Lib.hid (HB3.out.trans (hb4.mono HB3.out.size))
    have HR4 := Lib.hid (HR3.out.up hb4)
    have HI4 := Lib.hid hr4
    clear hb4 hr4
    go_wp2_with fail
    refine (rat_any (c := c) HR4.out HN3.out q).mono ?_
    rintro e w5 ⟨A5, c5, rfl, hr5, hb5⟩
    have HB5 := Lib.hid (HB4.out.trans (hb5.mono HB4.out.size))
    have HI5 := Lib.hid hr5
    have HI6 := Lib.hid (HI4.out.up hb5)
    clear hb5 hr5
    have hl : (atL (fun x : Con => decide (x.node = q)) L).length ≤ 1099511627776 := by
      have h1 := atL_len (fun x : Con => decide (x.node = q)) L
      have h2 := HN3.out
      have h3 := HR.out.1
      omega
    have HLL := Lib.hid hl
    clear hl
    go_wp2_with fail
    refine (ints_any HI6.out HI5.out HLL.out).mono ?_
    rintro e w6 ⟨rfl, hb6⟩
    have HB6 := Lib.hid (HB5.out.trans (hb6.mono HB5.out.size))
    clear hb6
    go_wp2_with fail
    refine (awake_any _).mono ?_
    rintro e w9 ⟨rfl, hb9⟩
    have HB := Lib.hid (HB6.out.trans (hb9.mono HB6.out.size))
    clear hb9
    go_wp2
    go_ret
    exact ⟨rfl, HB.out⟩
  · have HBL := Lib.hid hb
    clear hb
    go_enter Try.func9, Try.ntmps9
    go_wp2_with fail
    refine (large_any HR.out HN.out HSZ.out).mono ?_
    rw [HBL.out]
    rintro e w1 ⟨rfl, hb1⟩
    have HB1 := Lib.hid hb1
    clear hb1
    go_wp2_with fail
    refine (awake_any _).mono ?_
    rintro e w9 ⟨rfl, hb9⟩
    have HB := Lib.hid (HB1.out.trans (hb9.mono HB1.out.size))
    clear hb9
    go_wp2
    go_ret
    exact ⟨rfl, HB.out⟩

theorem own : ownKnob Try.prog.godebug = none := by kernel_rfl
theorem laidOut : laidOutB Try.prog = true := by kernel_rfl
set_option maxRecDepth 100000 in
theorem lifted (os : Os) (started : os.Started) (H : Type) (enc : TypeId × Value → H) :
    ReturnsInHanded {} Try.checked os 9 .any (Rows.containerFindsSpec.pre6 enc Try.prog Try.f9 Rows.containerFindsRow.domain false) (Rows.containerFindsSpec.post enc Try.prog Try.f9 false true false false) := by
  refine returnsInHanded_of_change (C := Try.checked) own started (by kernel_rfl) Try.func9
    (ChangeSpec.witness6 (enc := enc) (C := Try.checked) false ⟨#[], #[.slice none 0 0, .string ⟨#[]⟩, .int .i64 0], []⟩ 8 (by kernel_rfl) (by kernel_rfl) (by kernel_rfl) (by kernel_rfl)) ?_
  intro W base args ds gs before hval0 hW hcnd _
  have hval : ∀ (j : Nat) t v, Try.f9.params[j]? = some t → args[j]? = some v → Value.okWide Try.prog W .any base t v := hval0
  have hW' := hW
  obtain ⟨p, q, hA0, hV, rfl, hfz, hnd⟩ := hW
  have hA : DataW.TrodAll enc Try.prog W 0 (fun _ => true) true Try.f9.params.toList args.toList ds p := hA0
  rw [Try.params9] at hA hval
  obtain ⟨v0, vs0, d0, ds0, p0, q0, hargs, rfl, rfl, h0, r0⟩ := trodAll_cons hA
  obtain ⟨v1, vs1, d1, ds1, p1, q1, rfl, rfl, rfl, h1, r1⟩ := trodAll_cons r0
  obtain ⟨v2, vs2, d2, ds2, p2, q2, rfl, rfl, rfl, h2, r2⟩ := trodAll_cons r1
  obtain ⟨rfl, rfl, rfl⟩ := trodAll_nil r2
  obtain rfl : args = #[v0, v1, v2] := by cases args; simp_all
  obtain ⟨rfl, rfl⟩ := trodVars_none hV
  have k0 := h0
  have lt0 : ∀ x ∈ p0, x.block < W.heap.size := by obtain ⟨m, hm⟩ := k0; exact DataW.trod_lt m _ _ _ hm
  have O0 := open_conts W (hval 0 22 v0 rfl rfl) h0
  have k1 := h1
  have lt1 : ∀ x ∈ p1, x.block < W.heap.size := by obtain ⟨m, hm⟩ := k1; exact DataW.trod_lt m _ _ _ hm
  have O1 := open_string W (hval 1 9 v1 rfl rfl) h1
  have k2 := h2
  have lt2 : ∀ x ∈ p2, x.block < W.heap.size := by obtain ⟨m, hm⟩ := k2; exact DataW.trod_lt m _ _ _ hm
  have O2 := open_int W (hval 2 3 v2 rfl rfl) h2
  clear hA0 hval0
  refine (walk W v0 O0 v1 O1 v2 O2).mono fun e W' ⟨he, bel⟩ => ?_
  subst he
  exact ⟨_, rfl, _, _, _, [], _, [], hW', trodAll_mk1 (shut_bool Try.underlying4 _), (trodAll_cons_mk (Below.trod laidOut (by kernel_rfl) (of_decide_eq_true (by kernel_rfl)) k0 bel lt0) (trodAll_cons_mk (Below.trod laidOut (by kernel_rfl) (of_decide_eq_true (by kernel_rfl)) k1 bel lt1) (trodAll_cons_mk (Below.trod laidOut (by kernel_rfl) (of_decide_eq_true (by kernel_rfl)) k2 bel lt2) trodAll_mk0))), rfl, bel.frame _, fun h => by cases h⟩
theorem over : Rows.containerFindsRow.holds Try.pinned (OpenSpec.ofChange Rows.containerFindsSpec) :=
  OpenClaim.holds_of_wide 9 Try.f9 rfl rfl rfl rfl rfl rfl rfl ⟨rfl, rfl, rfl, rfl, rfl⟩ rfl rfl rfl rfl rfl (by kernel_rfl) Try.func9 (by kernel_rfl)
    (of_decide_eq_true (by kernel_rfl)) (by unfold Func.isWrapper; first | (rw [if_pos (by decide +kernel)]; kernel_rfl) | (rw [if_neg (by decide +kernel)]; exact ⟨rfl, rfl⟩))
    (fun os started H enc _ => lifted os started H enc)
theorem proved : Rows.ContainerFindsSaid := over
#print axioms proved

end Go.Proofs.Ytabldmoifkgchaa.containerFinds
