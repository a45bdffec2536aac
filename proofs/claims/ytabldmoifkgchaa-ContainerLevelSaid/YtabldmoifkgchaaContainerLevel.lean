/- ContainerLevel: the mass for a level has at most this level, and one gram more has a greater one; the fixed examples hold. No condition. -/
import Derived.Test.YtabldmoifkgchaaAwake13
import Derived.Test.YtabldmoifkgchaaConQ
import Derived.Test.YtabldmoifkgchaaOpenS
namespace Go.Proofs.Ytabldmoifkgchaa.containerLevel
open Go.ChangeShapes Go.WideShapes Go.ChangeAt Go.RowKit
set_option linter.unusedVariables false

set_option maxRecDepth 100000 in
set_option maxHeartbeats 1600000 in
theorem walk (w : World) (v0 : Value) (hv0 : IsCont v0) (v1 : Value) (hv1 : IsInt .i64 v1) :
    Calls Try.prog 6 #[v0, v1] w fun e w' => e = .returned (.bool true) ∧ Below w.heap.size w w' := by
  obtain ⟨id, kind, lit, gr, node, rfl, _, _, _, _, _⟩ := hv0
  obtain ⟨x, rfl, _⟩ := hv1
  by_cases hb : graB gr x
  · have H1 := Lib.hid (gra_bad hb)
    clear hb
    go_enter Try.func6, Try.ntmps6
    go_wp2_with fail
    refine (grams_any ⟨id, kind, lit, gr, node⟩ x _).mono ?_
    rw [H1.out.1, H1.out.2]
    rintro e w1 ⟨rfl, rfl⟩
    obtain ⟨w0, hw0, hb0⟩ : ∃ w0, ((w.alloc (.cells #[.string id, .int .i64 kind, .int .i64 lit, .int .i64 gr, .int .i64 node] 29)).alloc (.cells (Con.vs ⟨id, kind, lit, gr, node⟩) 29)) = w0 ∧ Below w.heap.size w w0 := ⟨_, rfl, by go_grown⟩
    rw [hw0]
    clear hw0
    go_wp2_with fail
    refine (awake_any _).mono ?_
    rintro e w9 ⟨rfl, hb9⟩
    have HB := Lib.hid (hb0.trans (hb9.mono hb0.size))
    clear hb0 hb9
    go_wp2
    go_ret
    exact ⟨rfl, HB.out⟩
  · obtain ⟨b1, b2, b3, b4, e1, b5, b6, e2, b7, h⟩ := level_law hb
    clear hb
    obtain ⟨m, hm⟩ : ∃ m, graV gr x = m := ⟨_, rfl⟩
    rw [hm] at b5 b6 e2 b7 h
    obtain ⟨y, hy⟩ : ∃ y, levV gr m = y := ⟨_, rfl⟩
    rw [hy] at b7
    have H1 := Lib.hid (And.intro hm e1)
    have H2 := Lib.hid (And.intro hy e2)
    clear hm e1 hy e2
    rcases h with ⟨rfl, hm2⟩ | ⟨h1, e3, h2⟩
    · have hm3 := hm2.symm
      subst hm3
      clear hm2
      go_enter Try.func6, Try.ntmps6
      go_wp2_with fail
      refine (grams_any ⟨id, kind, lit, gr, node⟩ 1000 _).mono ?_
      rw [H1.out.1, H1.out.2]
      rintro e w1 ⟨rfl, rfl⟩
      go_wp2_with fail
      refine (level_any ⟨id, kind, lit, gr, node⟩ gr _).mono ?_
      rw [H2.out.1, H2.out.2]
      rintro e w1 ⟨rfl, rfl⟩
      have k0 := (((Blk.new w 29 #[.string id, .int .i64 kind, .int .i64 lit, .int .i64 gr, .int .i64 node]).alloc (.cells (Con.vs ⟨id, kind, lit, gr, node⟩) 29)).alloc (.cells (Con.vs ⟨id, kind, lit, gr, node⟩) 29))
      obtain ⟨w0, hw0, hb0⟩ : ∃ w0, (((w.alloc (.cells #[.string id, .int .i64 kind, .int .i64 lit, .int .i64 gr, .int .i64 node] 29)).alloc (.cells (Con.vs ⟨id, kind, lit, gr, node⟩) 29)).alloc (.cells (Con.vs ⟨id, kind, lit, gr, node⟩) 29)) = w0 ∧ Below w.heap.size w w0 := ⟨_, rfl, by go_grown⟩
      rw [hw0] at k0 ⊢
      have c3 := k0.cell 3
      simp at c3
      clear k0
      clear hw0
      go_wp2_with fail
      refine (awake_any _).mono ?_
      rintro e w9 ⟨rfl, hb9⟩
      have HB := Lib.hid (hb0.trans (hb9.mono hb0.size))
      clear hb0 hb9
      go_wp2
      go_ret
      exact ⟨rfl, HB.out⟩
    · obtain ⟨z, hz⟩ : ∃ z, levV gr (m + 1) = z := ⟨_, rfl⟩
      rw [hz] at h2
      have H3 := Lib.hid (And.intro hz e3)
      have nx : (x == 1000) = false := by simp; omega
      clear hz e3
      go_enter Try.func6, Try.ntmps6
      go_wp2_with fail
      refine (grams_any ⟨id, kind, lit, gr, node⟩ x _).mono ?_
      rw [H1.out.1, H1.out.2]
      rintro e w1 ⟨rfl, rfl⟩
      go_wp2_with fail
      refine (level_any ⟨id, kind, lit, gr, node⟩ m _).mono ?_
      rw [H2.out.1, H2.out.2]
      rintro e w1 ⟨rfl, rfl⟩
      go_wp2_with fail
      refine (level_any ⟨id, kind, lit, gr, node⟩ (m + 1) _).mono ?_
      rw [H3.out.1, H3.out.2]
      rintro e w1 ⟨rfl, rfl⟩
      obtain ⟨w0, hw0, hb0⟩ : ∃ w0, ((((w.alloc (.cells #[.string id, .int .i64 kind, .int .i64 lit, .int .i64 gr, .int .i64 node] 29)).alloc (.cells (Con.vs ⟨id, kind, lit, gr, node⟩) 29)).alloc (.cells (Con.vs ⟨id, kind, lit, gr, node⟩) 29)).alloc (.cells (Con.vs ⟨id, kind, lit, gr, node⟩) 29)) = w0 ∧ Below w.heap.size w w0 := ⟨_, rfl, by go_grown⟩
      rw [hw0]
      clear hw0
      go_wp2_with fail
      refine (awake_any _).mono ?_
      rintro e w9 ⟨rfl, hb9⟩
      have HB := Lib.hid (hb0.trans (hb9.mono hb0.size))
      clear hb0 hb9
      go_wp2
      go_ret
      exact ⟨rfl, HB.out⟩

theorem own : ownKnob Try.prog.godebug = none := by kernel_rfl
theorem laidOut : laidOutB Try.prog = true := by kernel_rfl
set_option maxRecDepth 100000 in
theorem lifted (os : Os) (started : os.Started) (H : Type) (enc : TypeId × Value → H) :
    ReturnsInHanded {} Try.checked os 6 .any (Rows.containerLevelSpec.pre6 enc Try.prog Try.f6 Rows.containerLevelRow.domain false) (Rows.containerLevelSpec.post enc Try.prog Try.f6 false true false false) := by
  refine returnsInHanded_of_change (C := Try.checked) own started (by kernel_rfl) Try.func6
    (ChangeSpec.witness6 (enc := enc) (C := Try.checked) false ⟨#[], #[.agg #[.string ⟨#[]⟩, .int .i64 0, .int .i64 0, .int .i64 0, .int .i64 0], .int .i64 0], []⟩ 8 (by kernel_rfl) (by kernel_rfl) (by kernel_rfl) (by kernel_rfl)) ?_
  intro W base args ds gs before hval0 hW hcnd _
  have hval : ∀ (j : Nat) t v, Try.f6.params[j]? = some t → args[j]? = some v → Value.okWide Try.prog W .any base t v := hval0
  have hW' := hW
  obtain ⟨p, q, hA0, hV, rfl, hfz, hnd⟩ := hW
  have hA : DataW.TrodAll enc Try.prog W 0 (fun _ => true) true Try.f6.params.toList args.toList ds p := hA0
  rw [Try.params6] at hA hval
  obtain ⟨v0, vs0, d0, ds0, p0, q0, hargs, rfl, rfl, h0, r0⟩ := trodAll_cons hA
  obtain ⟨v1, vs1, d1, ds1, p1, q1, rfl, rfl, rfl, h1, r1⟩ := trodAll_cons r0
  obtain ⟨rfl, rfl, rfl⟩ := trodAll_nil r1
  obtain rfl : args = #[v0, v1] := by cases args; simp_all
  obtain ⟨rfl, rfl⟩ := trodVars_none hV
  have k0 := h0
  have lt0 : ∀ x ∈ p0, x.block < W.heap.size := by obtain ⟨m, hm⟩ := k0; exact DataW.trod_lt m _ _ _ hm
  have O0 := open_cont W (hval 0 29 v0 rfl rfl) h0
  have k1 := h1
  have lt1 : ∀ x ∈ p1, x.block < W.heap.size := by obtain ⟨m, hm⟩ := k1; exact DataW.trod_lt m _ _ _ hm
  have O1 := open_int W (hval 1 3 v1 rfl rfl) h1
  clear hA0 hval0
  refine (walk W v0 O0 v1 O1).mono fun e W' ⟨he, bel⟩ => ?_
  subst he
  exact ⟨_, rfl, _, _, _, [], _, [], hW', trodAll_mk1 (shut_bool Try.underlying4 _), (trodAll_cons_mk (Below.trod laidOut (by kernel_rfl) (of_decide_eq_true (by kernel_rfl)) k0 bel lt0) (trodAll_cons_mk (Below.trod laidOut (by kernel_rfl) (of_decide_eq_true (by kernel_rfl)) k1 bel lt1) trodAll_mk0)), rfl, bel.frame _, fun h => by cases h⟩
theorem over : Rows.containerLevelRow.holds Try.pinned (OpenSpec.ofChange Rows.containerLevelSpec) :=
  OpenClaim.holds_of_wide 6 Try.f6 rfl rfl rfl rfl rfl rfl rfl ⟨rfl, rfl, rfl, rfl, rfl⟩ rfl rfl rfl rfl rfl (by kernel_rfl) Try.func6 (by kernel_rfl)
    (of_decide_eq_true (by kernel_rfl)) (by unfold Func.isWrapper; first | (rw [if_pos (by decide +kernel)]; kernel_rfl) | (rw [if_neg (by decide +kernel)]; exact ⟨rfl, rfl⟩))
    (fun os started H enc _ => lifted os started H enc)
theorem proved : Rows.ContainerLevelSaid := over
#print axioms proved

end Go.Proofs.Ytabldmoifkgchaa.containerLevel
