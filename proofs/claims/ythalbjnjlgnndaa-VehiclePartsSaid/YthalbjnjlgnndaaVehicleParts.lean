/- VehicleParts: without the reference: if loads fit, they fit in the opposite order and without any of them, and a load that is as heavy as what is left fits, too, while a heavier one does not. No condition. -/
import Derived.Test.YthalbjnjlgnndaaVehF
import Derived.Test.YthalbjnjlgnndaaAwake20
import Derived.Test.YthalbjnjlgnndaaOpenV
import Derived.Deep.RegionWith
import Derived.Deep.RegionHeld3
import Derived.Deep.DrawnRows
import Derived.Deep.AppendLies
import Derived.Deep.DeepCutAuto
import Derived.Maps.AppendAt
import Derived.Laws.AppendOwnNone
namespace Go.Proofs.Ythalbjnjlgnndaa.vehicleParts
open Go.ChangeShapes Go.WideShapes Go.ChangeAt Go.RowKit
set_option linter.unusedVariables false

theorem own_low {w : World} {base base' : Nat} {e : TypeId} {size n : Nat} {v : Value} {xs : List Value} (h : w.ownsRow base e size v n xs) (hb : base' ≤ base) : w.ownsRow base' e size v n xs := by
  refine ⟨h.1, ?_⟩
  rcases h.2 with h2 | ⟨g, cap, cur, rfl, hg, rest⟩
  · exact .inl h2
  · exact .inr ⟨g, cap, cur, rfl, by omega, rest⟩
theorem lit_one (w : World) (x : Int) {base : Nat} (hb : base ≤ w.heap.size) : (w.alloc (.cells #[.int .i64 x] 3)).ownsRow base 3 1 (.slice (some ⟨w.heap.size, 0, none⟩) 1 1) 1 (zs [x]) :=
  ⟨rfl, .inr ⟨w.heap.size, 1, #[.int .i64 x], rfl, hb, heap_alloc_new w _, Nat.le_refl _, by unfold maxLen; omega, rfl, rfl⟩⟩

/-- the two lists behind k rounds: the opposite order, and without one of them -/
def Parts (wr : World) (base : Nat) (l : List Int) (k kb : Nat) (vb vr : Value) : Prop :=
  ∃ B R : List Int, (wr.ownsRow base 3 1 vb kb (zs B) ∧ (kb = 0 → vb = .slice none 0 0)) ∧ wr.ownsRow base 3 1 vr R.length (zs R) ∧ (∀ j, vb.ownBlock = some j → vr.ownBlock ≠ some j) ∧
    (∀ x ∈ B, 0 ≤ x) ∧ B.sum = (l.take kb).sum ∧ B.length = kb ∧ (∀ x ∈ R, 0 ≤ x) ∧ R.sum ≤ (l.take k).sum ∧ R.length ≤ k
theorem Parts.start (w : World) (base : Nat) (l : List Int) : Parts w base l 0 0 (.slice none 0 0) (.slice none 0 0) :=
  ⟨[], [], ⟨World.ownsRow_nil _ _ _ _, fun _ => rfl⟩, World.ownsRow_nil _ _ _ _, fun j h => by simp [Value.ownBlock] at h, by simp, by simp, rfl, by simp, by simp, by simp⟩
theorem Parts.front {w w' : World} {base k : Nat} {l : List Int} {vr v' : Value} {x : Int} {B R : List Int} (hx : l[k]? = some x) (h0 : 0 ≤ x) (hb : base ≤ w.heap.size)
    (h2 : w.ownsRow base 3 1 vr R.length (zs R)) (h4 : ∀ x ∈ B, 0 ≤ x) (h5 : B.sum = (l.take k).sum) (h6 : B.length = k) (h7 : ∀ x ∈ R, 0 ≤ x) (h8 : R.sum ≤ (l.take k).sum) (h9 : R.length ≤ k)
    (ho : w'.ownsRow w.heap.size 3 1 v' (k + 1) (zs (x :: B))) {row : Option Nat} (hg : (w.alloc (.cells #[.int .i64 x] 3)).grownBy w' row) (hrow : ∀ j, row = some j → w.heap.size ≤ j) : Parts w' base l k (k + 1) v' vr := by
  refine ⟨x :: B, R, ⟨own_low ho hb, fun e => by omega⟩, (h2.alloc _).kept hg ?_, fun j hj e => ?_, ?_, ?_, by simp [h6], h7, h8, h9⟩
  · cases hr : vr.ownBlock with
    | none => exact .inl rfl
    | some j => exact .inr (fun e => by have := (h2.lt j hr).2; have := hrow j e.symm; omega)
  · have := (ho.lt j hj).1; have := (h2.lt j e).2; omega
  · intro y hy; rcases List.mem_cons.1 hy with rfl | hy; exact h0; exact h4 y hy
  · rw [take_snoc' hx, sum_snoc, List.sum_cons, h5]; omega
theorem grown_same (w : World) (row : Option Nat) : w.grownBy w row := ⟨rfl, rfl, rfl, Nat.le_refl _, fun _ _ _ => rfl⟩
theorem grown_below {w w' : World} {x : Int} {row : Option Nat} (hg : (w.alloc (.cells #[.int .i64 x] 3)).grownBy w' row) (hrow : ∀ j, row = some j → w.heap.size ≤ j) : Below w.heap.size w w' :=
  ((Below.refl _ w).alloc (Nat.le_refl _) _).grown hg (by simp) hrow
theorem Parts.skip {w : World} {base k : Nat} {l : List Int} {vb vr : Value} {x : Int} (h : Parts w base l k (k + 1) vb vr) (hx : l[k]? = some x) (h0 : 0 ≤ x) : Parts w base l (k + 1) (k + 1) vb vr := by
  obtain ⟨B, R, h1, h2, h3, h4, h5, h6, h7, h8, h9⟩ := h
  exact ⟨B, R, h1, h2, h3, h4, h5, h6, h7, by rw [take_snoc' hx, sum_snoc]; omega, by omega⟩
theorem zs_snoc (l : List Int) (x : Int) : zs (l ++ [x]) = zs l ++ [.int .i64 x] := by simp [zs]
theorem Parts.back {w w' : World} {base k : Nat} {l : List Int} {vb vr v' : Value} {x : Int} {R B : List Int} (hx : l[k]? = some x) (h0 : 0 ≤ x)
    (h1 : w.ownsRow base 3 1 vb (k + 1) (zs B)) (h2 : w.ownsRow base 3 1 vr R.length (zs R)) (h3 : ∀ j, vb.ownBlock = some j → vr.ownBlock ≠ some j) (h4 : ∀ x ∈ B, 0 ≤ x) (h5 : B.sum = (l.take (k + 1)).sum) (h6 : B.length = k + 1) (h7 : ∀ x ∈ R, 0 ≤ x) (h8 : R.sum ≤ (l.take k).sum) (h9 : R.length ≤ k)
    (hown : w'.ownsRow base 3 1 v' (R.length + 1) (zs R ++ [.int .i64 x])) (hg : (w.alloc (.cells #[.int .i64 x] 3)).grownBy w' vr.ownBlock) (hat : v'.ownBlock = vr.ownBlock ∨ v'.ownBlock = some (w.alloc (.cells #[.int .i64 x] 3)).heap.size) : Parts w' base l (k + 1) (k + 1) vb v' := by
  have hne : vb.ownBlock = none ∨ vb.ownBlock ≠ vr.ownBlock := by
    cases hr : vb.ownBlock with
    | none => exact .inl rfl
    | some j => exact .inr (fun e => h3 j hr e.symm)
  refine ⟨B, R ++ [x], ⟨(h1.alloc _).kept hg hne, fun e => by omega⟩, by rw [zs_snoc, List.length_append]; exact hown, fun j hj e => ?_, h4, h5, h6, ?_, ?_, ?_⟩
  · rcases hat with e2 | e2
    · exact h3 j hj (e2.symm.trans e)
    · have := (h1.lt j hj).2
      rw [e2] at e
      have := Option.some.inj e
      simp at this
      omega
  · intro y hy
    rcases List.mem_append.1 hy with hy | hy
    · exact h7 y hy
    · rw [List.mem_singleton.1 hy]; exact h0
  · rw [take_snoc' hx, sum_snoc, sum_snoc]; omega
  · simp; omega

theorem if_go {c : Bool} {A E : Prop} (hc : c = true) (h : A) : if c = true then A else E := by rw [if_pos hc]; exact h
theorem mem_le_sum {l : List Int} (h : ∀ x ∈ l, 0 ≤ x) : ∀ x ∈ l, x ≤ l.sum := by
  induction l with
  | nil => intro x hx; simp at hx
  | cons y r ih =>
    intro x hx
    have h0 := sum_nonneg (l := r) (fun z hz => h z (List.mem_cons_of_mem _ hz))
    have hy := h y (List.mem_cons_self ..)
    rw [List.sum_cons]
    rcases List.mem_cons.1 hx with rfl | hx
    · omega
    · have := ih (fun z hz => h z (List.mem_cons_of_mem _ hz)) x hx
      omega
theorem fits_is {g : Int} {l : List Int} {b : Bool} {w : World} {A : Option Addr} {n c : Nat} (hd : decide (fitP g l) = b) (hg : i64ok g) (h : RdS w (· < w.heap.size) A n (zs l)) (hn : n ≤ maxLen) (hl : ∀ x ∈ l, i64ok x) :
    Calls Try.prog 21 #[.agg #[.string ⟨#[]⟩, .int .i64 0, .int .i64 0, .int .i64 0, .int .i64 g, .int .i64 0], .slice A n c] w fun e w' => e = .returned (.bool b) ∧ Below w.heap.size w w' := by
  rw [← hd]
  exact fits_any (v := ⟨⟨#[]⟩, 0, 0, 0, g, 0⟩) hg h hn hl
theorem own_rds {w : World} {base : Nat} {e : TypeId} {A : Option Addr} {n c : Nat} {xs : List Value} (h : w.ownsRow base e 1 (.slice A n c) n xs) : RdS w (· < w.heap.size) A n xs := (RdS.of_own h).mono fun b hb => hb.2.1
theorem own_below {w w' : World} {base : Nat} {e : TypeId} {size n : Nat} {v : Value} {xs : List Value} (h : w.ownsRow base e size v n xs) (hb : Below w.heap.size w w') : w'.ownsRow base e size v n xs :=
  h.kept (row := none) ⟨hb.os, hb.tape, hb.output, hb.size, fun i hi _ => hb.block i hi⟩ (by cases h : v.ownBlock <;> simp)

set_option maxRecDepth 100000 in
set_option maxHeartbeats 3200000 in
theorem walk (w : World) (v0 : Value) (hv0 : IsInt .i64 v0) (v1 : Value) (hv1 : IsInts w v1) (v2 : Value) (hv2 : IsInt .i64 v2) :
    Calls Try.prog 6 #[v0, v1, v2] w fun e w' => e = .returned (.bool true) ∧ Below w.heap.size w w' := by
  obtain ⟨g, rfl, hg⟩ := hv0
  obtain ⟨A, n, c, l, rfl, hr, hn, hnc, hok⟩ := hv1
  obtain ⟨drop, rfl, _⟩ := hv2
  have HG := Lib.hid (wf_i64 hg)
  have HR := Lib.hid hr
  have HN := Lib.hid hn
  have HOK := Lib.hid hok
  have HLEN : Hid (l.length = n) := Lib.hid (by rw [← zs_len]; exact hr.1)
  unfold maxLen at hn
  clear hr hok hg hnc
  by_cases hearly : 100 < n ∨ g < 0 ∨ 1073741824 < g
  · by_cases h1 : 100 < n
    · go_enter Try.func6, Try.ntmps6
      go_wp2_with fail
      refine (awake_any _).mono ?_
      rintro e w9 ⟨rfl, hb9⟩
      have HB := Lib.hid hb9
      clear hb9
      go_wp2
      go_ret
      exact ⟨rfl, HB.out⟩
    by_cases h2 : g < 0
    · clear hearly
      go_enter Try.func6, Try.ntmps6
      go_wp2_with fail
      refine (awake_any _).mono ?_
      rintro e w9 ⟨rfl, hb9⟩
      have HB := Lib.hid hb9
      clear hb9
      go_wp2
      go_ret
      exact ⟨rfl, HB.out⟩
    have h3 : 1073741824 < g := by omega
    clear hearly
    go_enter Try.func6, Try.ntmps6
    go_wp2_with fail
    refine (awake_any _).mono ?_
    rintro e w9 ⟨rfl, hb9⟩
    have HB := Lib.hid hb9
    clear hb9
    go_wp2
    go_ret
    exact ⟨rfl, HB.out⟩
  have h1 : n ≤ 100 := by omega
  have h2 : 0 ≤ g := by omega
  have h3 : g ≤ 1073741824 := by omega
  clear hearly
  go_enter Try.func6, Try.ntmps6
  go_wp2_with fail
  have k0 := Blk.new w 32 #[.string ⟨#[]⟩, .int .i64 0, .int .i64 0, .int .i64 0, .int .i64 g, .int .i64 0]
  obtain ⟨w0, hw0, hb0⟩ : ∃ w0, w.alloc (.cells #[.string ⟨#[]⟩, .int .i64 0, .int .i64 0, .int .i64 0, .int .i64 g, .int .i64 0] 32) = w0 ∧ Below w.heap.size w w0 := ⟨_, rfl, by go_grown⟩
  have hs0 : w0.heap.size = w.heap.size + 1 := by rw [← hw0]; simp
  rw [hw0] at k0 ⊢
  clear hw0
  have HR0 := Lib.hid (HR.out.up hb0)
  have HB0 := Lib.hid hb0
  have HK0 := Lib.hid k0
  clear hb0 k0
  refine (fits_any (v := ⟨⟨#[]⟩, 0, 0, 0, g, 0⟩) (c := c) HG.out HR0.out HN.out HOK.out).mono ?_
  rintro e w1 ⟨rfl, hb1⟩
  have HB1 := Lib.hid hb1
  have HK1 := Lib.hid (HK0.out.grow hb1)
  have HR1 := Lib.hid (HR0.out.below hb1)
  have hs1 := hb1.size
  clear hb1
  simp only
  go_wp2_with fail
  obtain ⟨i0, hi, hz0, hz1, hz2⟩ := info_parts infoI
  go_loopw [9, 10, 11, 12] (fun t9 t10 t11 t12 wr => ∃ (k : Nat) (f : Int), k ≤ n ∧ t12 = .int .i64 (k : Nat) ∧ t11 = .int .i64 f ∧ f = g - (l.take k).sum ∧ 0 ≤ f ∧ (∀ x ∈ l.take k, 0 ≤ x) ∧ Parts wr w0.heap.size l k k t9 t10 ∧ Below w0.heap.size w1 wr) (fun _ _ _ t12 _ => n - (intOf t12).toNat)
  case atStart => exact ⟨0, g, Nat.zero_le _, rfl, rfl, by simp, h2, by simp, Parts.start _ _ _, Below.refl _ _⟩
  case round =>
    obtain ⟨k, f, hk, rfl, rfl, hf, hf0, hpos, hpar, hbel⟩ := hrel
    have HF := Lib.hid hf
    have HPOS := Lib.hid hpos
    have HPAR := Lib.hid hpar
    have HBEL := Lib.hid hbel
    clear hf hpos hpar hbel
    by_cases hlt : k < n
    · obtain ⟨x, hx⟩ := at_lt (l := l) (k := k) (by rw [HLEN.out]; exact hlt)
      obtain ⟨b, o, rfl, hb, hcx⟩ := (HR1.out.below HBEL.out).z hlt hx
      obtain ⟨x0, x1⟩ := HOK.out x (List.mem_of_getElem? hx)
      have HX := Lib.hid hx
      clear hx
      by_cases hneg : x < 0
      · have hd : decide (fitP g l) = false := decide_eq_false (fit_neg HX.out hneg)
        rw [hd]
        go_wp2_with fail
        refine (awake_any _).mono ?_
        rintro e w9 ⟨rfl, hb9⟩
        have HB := Lib.hid (HB0.out.trans (((HB1.out.trans HBEL.out).mono (by omega)).trans (hb9.mono (by have := HBEL.out.size; omega))))
        clear hb9
        go_wp2
        go_ret
        exact ⟨rfl, HB.out⟩
      by_cases hbig : f < x
      · have hd : decide (fitP g l) = false := decide_eq_false (fit_big HX.out (by have := HF.out; omega))
        rw [hd]
        go_wp2_with fail
        refine (awake_any _).mono ?_
        rintro e w9 ⟨rfl, hb9⟩
        have HB := Lib.hid (HB0.out.trans (((HB1.out.trans HBEL.out).mono (by omega)).trans (hb9.mono (by have := HBEL.out.size; omega))))
        clear hb9
        go_wp2
        go_ret
        exact ⟨rfl, HB.out⟩
      have hsw := HBEL.out.size
      have hfg : f ≤ g := by have := HF.out; have := sum_nonneg HPOS.out; omega
      go_upto_region 13 with fail
      go_cut [9] (fun s9 wx => Parts wx w0.heap.size l k (k + 1) s9 u10 ∧ Below wr.heap.size wr wx)
      case first =>
        obtain ⟨B, R, ⟨hB, hnil⟩, hRo, _, p4, p5, p6, p7, p8, p9⟩ := HPAR.out
        have HR2 := Lib.hid hRo
        have HBO := Lib.hid hB
        have hlit := lit_one wr x (base := wr.heap.size) (Nat.le_refl _)
        have HL := Lib.hid hlit
        clear hlit hB hRo
        by_cases hk0 : k = 0
        · have hv := hnil hk0
          subst hv
          have HK := Lib.hid hk0
          clear hk0 hnil
          go_wp2
          go_meet
          refine ⟨Parts.front HX.out (by omega) (by omega) HR2.out p4 p5 p6 p7 p8 p9 ?_ (grown_same _ none) (fun j e => by cases e), (Below.refl _ _).alloc (Nat.le_refl _) _⟩
          have : B = [] := List.eq_nil_of_length_eq_zero (by have := HK.out; omega)
          subst this
          rw [HK.out]
          exact HL.out
        · obtain ⟨gb, cb, hv⟩ := Joins.ownsRow_form HBO.out (by omega)
          subst hv
          have HC : Hid (∀ j u, (zs B)[j]? = some u → (wr.alloc (.cells #[.int .i64 x] 3)).cell? ((⟨gb, 0, none⟩ : Addr).add j) = some u) := Lib.hid (World.ownsRow.cells (HBO.out.alloc _) (g := gb) rfl)
          have HZL : Hid ((zs B).length = k * 1) := Lib.hid (by rw [zs_len, p6]; omega)
          have hone : Hid (∀ u ∈ zs B, u.oneCell' = true) := Lib.hid (by intro u hu; simp [zs] at hu; obtain ⟨y, _, rfl⟩ := hu; rfl)
          clear hnil
          go_wp2_with (at_builtin; refine wpList_append_own _ rfl _ _ 34 rfl wr.heap.size 3 i0 (.int .i64 0) 1 8 Try.underlying34 hi hz0 hz1 hz2 rfl (by decide) _ 1 (zs [x]) rfl HL.out ⟨gb, 0, none⟩ k cb (zs B) rfl HZL.out HC.out hone.out (by unfold maxLen; omega) (by omega) (by simp) ?_; intro v' w2 hown2 hg2 _; have HO2 := Lib.hid hown2; have HG2 := Lib.hid hg2; clear hown2 hg2)
          go_meet
          refine ⟨Parts.front HX.out (by omega) (by omega) HR2.out p4 p5 p6 p7 p8 p9 ?_ HG2.out (fun j e => by have e2 : wr.heap.size = j := Option.some.inj e; omega), grown_below HG2.out (fun j e => by have e2 : wr.heap.size = j := Option.some.inj e; omega)⟩
          rw [Nat.add_comm k 1]
          exact HO2.out
      case rest =>
        obtain ⟨hpar, hbx⟩ := hcut
        have hcx2 := (hbx.cell (p := ⟨b, o + k, none⟩) (by simp only; omega)).trans hcx
        have HPAR2 := Lib.hid hpar
        have HBX := Lib.hid (HBEL.out.trans (hbx.mono (by omega)))
        have hsx := hbx.size
        clear hpar hbx hcx HPAR HBEL
        by_cases hdrop : (k : Int) = drop
        · subst hdrop
          go_wp2_with fail
          go_roundw
          case rel => exact ⟨k + 1, f - x, by omega, by go_num, rfl, by rw [take_snoc' HX.out, sum_snoc, HF.out]; omega, by omega, take_mem_snoc HPOS.out HX.out (by omega), HPAR2.out.skip HX.out (by omega), HBX.out⟩
          case measure => simp [intOf]; omega
        · have hbq : ((k : Int) == drop) = false := beq_eq_false_iff_ne.2 hdrop
          obtain ⟨B, R, ⟨hB, _⟩, hRo, p3, p4, p5, p6, p7, p8, p9⟩ := HPAR2.out
          have HR2 := Lib.hid hRo
          have HBO := Lib.hid hB
          have P3 := Lib.hid p3
          clear hB hRo p3
          go_wp2_with (at_builtin; refine wpList_append_own_at _ rfl _ _ 34 rfl w0.heap.size 3 i0 (.int .i64 0) 1 8 Try.underlying34 hi hz0 hz1 hz2 rfl (by decide) _ _ _ rfl (HR2.out.alloc _) ⟨wc.heap.size, 0, none⟩ 1 1 [.int .i64 x] rfl rfl (cell_one_new _ _ _) (by intro u hu; simp at hu; subst hu; rfl) (by unfold maxLen; omega) (by omega) (by simp; omega) ?_; intro v' w3 hown3 hg3 _ hat3; have HO3 := Lib.hid hown3; have HG3 := Lib.hid hg3; have HAT3 := Lib.hid hat3; clear hown3 hg3 hat3)
          go_roundw
          case rel => exact ⟨k + 1, f - x, by omega, by go_num, rfl, by rw [take_snoc' HX.out, sum_snoc, HF.out]; omega, by omega, take_mem_snoc HPOS.out HX.out (by omega), Parts.back HX.out (by omega) HBO.out HR2.out P3.out p4 p5 p6 p7 p8 p9 HO3.out HG3.out HAT3.out, (HBX.out.alloc (by omega) (.cells #[.int .i64 x] 3)).grown HG3.out (by simp; omega) (fun j e => (HR2.out.lt j e).1)⟩
          case measure => simp [intOf]; omega
    · have e : k = n := by omega
      subst e
      obtain ⟨B, R, ⟨hB, _⟩, hRo, p3, p4, p5, p6, p7, p8, p9⟩ := HPAR.out
      obtain ⟨Ab, cb, rfl, _⟩ := own_rd hB
      obtain ⟨Ar, cr, rfl, _⟩ := own_rd hRo
      have hne : (Value.slice Ar R.length cr).ownBlock ≠ (Value.slice Ab k cb).ownBlock ∨ (Value.slice Ar R.length cr).ownBlock = none := by
        cases hr : (Value.slice Ab k cb).ownBlock with
        | none => cases hq : (Value.slice Ar R.length cr).ownBlock with
          | none => exact .inr rfl
          | some j => exact .inl (by simp)
        | some j => exact .inl (p3 j hr)
      have HNE := Lib.hid hne.symm
      have hall : l.take k = l := List.take_of_length_le (by rw [HLEN.out]; exact Nat.le_refl _)
      rw [hall] at p5 p8
      have hf := HF.out
      have hpos := HPOS.out
      rw [hall] at hf hpos
      have hR0 := sum_nonneg p7
      have hB0 := sum_nonneg p4
      have HFL : Hid (decide (fitP g l) = true) := Lib.hid (decide_eq_true ⟨h2, hpos, by omega⟩)
      have HFB : Hid (decide (fitP g B) = true) := Lib.hid (decide_eq_true ⟨h2, p4, by omega⟩)
      have HFR : Hid (decide (fitP g R) = true) := Lib.hid (decide_eq_true ⟨h2, p7, by omega⟩)
      have HFBL : Hid (decide (fitP g (B ++ [f])) = true) := Lib.hid (decide_eq_true ⟨h2, fun y hy => by
        rcases List.mem_append.1 hy with hy | hy
        · exact p4 y hy
        · rw [List.mem_singleton.1 hy]; exact hf0, by rw [sum_snoc]; omega⟩)
      have HFRL : Hid (decide (fitP g (R ++ [g + 1])) = false) := Lib.hid (decide_eq_false (fun h => by have := h.2.2; rw [sum_snoc] at this; omega))
      have hBok : ∀ x ∈ B, i64ok x := fun x hx => by have := p4 x hx; have := mem_le_sum p4 x hx; exact ⟨by omega, by omega⟩
      have hRok : ∀ x ∈ R, i64ok x := fun x hx => by have := p7 x hx; have := mem_le_sum p7 x hx; exact ⟨by omega, by omega⟩
      have OKB := Lib.hid hBok
      have OKR := Lib.hid hRok
      have OKBL : Hid (∀ x ∈ B ++ [f], i64ok x) := Lib.hid (fun y hy => by
        rcases List.mem_append.1 hy with hy | hy
        · exact hBok y hy
        · rw [List.mem_singleton.1 hy]; exact ⟨by omega, by omega⟩)
      have OKRL : Hid (∀ x ∈ R ++ [g + 1], i64ok x) := Lib.hid (fun y hy => by
        rcases List.mem_append.1 hy with hy | hy
        · exact hRok y hy
        · rw [List.mem_singleton.1 hy]; exact ⟨by omega, by omega⟩)
      have NB : Hid (k ≤ maxLen) := Lib.hid (by unfold maxLen; omega)
      have NR : Hid (R.length ≤ maxLen) := Lib.hid (by unfold maxLen; omega)
      have NBL : Hid (k + 1 ≤ maxLen) := Lib.hid (by unfold maxLen; omega)
      have NRL : Hid (R.length + 1 ≤ maxLen) := Lib.hid (by unfold maxLen; omega)
      have hdr : Below wr.heap.size wr wr.drew := (Below.refl _ _).drew
      have HOB := Lib.hid (own_below hB hdr)
      have HOR := Lib.hid (own_below hRo hdr)
      have HBN := Lib.hid ((HB1.out.trans HBEL.out).drew)
      have HS : Hid (∀ W, Below w0.heap.size w0 W → (Below w0.heap.size w0 W ∧ W.cell? ⟨w.heap.size, 0, none⟩ = some (.string ⟨#[]⟩) ∧ W.cell? ⟨w.heap.size, 1, none⟩ = some (.int .i64 0) ∧ W.cell? ⟨w.heap.size, 2, none⟩ = some (.int .i64 0) ∧ W.cell? ⟨w.heap.size, 3, none⟩ = some (.int .i64 0) ∧ W.cell? ⟨w.heap.size, 4, none⟩ = some (.int .i64 g) ∧ W.cell? ⟨w.heap.size, 5, none⟩ = some (.int .i64 0))) := Lib.hid (fun W hW => by
        have k := HK0.out.grow hW
        exact ⟨hW, k.cell 0, k.cell 1, k.cell 2, k.cell 3, k.cell 4, k.cell 5⟩)
      have HI := Lib.hid (HS.out wr (HB1.out.trans HBEL.out))
      have hwrap : IntKind.i64.wrap (g + 1) = g + 1 := IntWalk.i64_in _ (by omega)
      obtain ⟨s0, s1, s2, s3, s4, s5, s6⟩ := HI.out
      have hr9 : R.length ≤ 100 := by omega
      clear hB hRo p3 p4 p5 p6 p7 p8 p9 hne hall hf hpos hR0 hB0 hBok hRok hdr HPAR HF HPOS
      rw [HFL.out]
      go_wp2_with fail
      go_region_held3 (fun W => Below w0.heap.size w0 W ∧ W.cell? ⟨w.heap.size, 0, none⟩ = some (.string ⟨#[]⟩) ∧ W.cell? ⟨w.heap.size, 1, none⟩ = some (.int .i64 0) ∧ W.cell? ⟨w.heap.size, 2, none⟩ = some (.int .i64 0) ∧ W.cell? ⟨w.heap.size, 3, none⟩ = some (.int .i64 0) ∧ W.cell? ⟨w.heap.size, 4, none⟩ = some (.int .i64 g) ∧ W.cell? ⟨w.heap.size, 5, none⟩ = some (.int .i64 0))
        (first | exact HS.out _ HBN.out | exact HI.out | exact HS.out _ (HBN.out.alloc HBN.out.size _) | exact HS.out _ (HBN.out.drew))
        (first
          | (go_at_call 21; with_reducible refine (fits_is HFB.out HG.out (own_rds HOB.out) NB.out OKB.out).mono ?_; rintro e wN ⟨rfl, hbN⟩; have HBN := Lib.hid (HBN.out.trans (hbN.mono HBN.out.size)); have HOB := Lib.hid (own_below HOB.out hbN); have HOR := Lib.hid (own_below HOR.out hbN); clear hbN)
          | (go_at_call 21; with_reducible refine (fits_is HFR.out HG.out (own_rds HOR.out) NR.out OKR.out).mono ?_; rintro e wN ⟨rfl, hbN⟩; have HBN := Lib.hid (HBN.out.trans (hbN.mono HBN.out.size)); have HOB := Lib.hid (own_below HOB.out hbN); have HOR := Lib.hid (own_below HOR.out hbN); clear hbN)
          | (refine if_go (by kernel_rfl) ?_; refine wp_append_lies _ (.tmp 91) (.tmp 93) 34 (by rfl) w0.heap.size 3 i0 (.int .i64 0) 1 8 Try.underlying34 hi hz0 hz1 hz2 rfl (by decide) (.slice Ab k cb) (k) (zs B) (by rfl) (HOB.out.alloc _) ⟨_, 0, none⟩ 1 1 [.int .i64 f] (by rfl) rfl (cell_one_new _ _ _) (by intro u hu; simp at hu; subst hu; rfl) (by decide) (by unfold maxLen; omega) (by omega) (by have := HBN.out.size; simp; omega) _ rfl ?_; intro g9 cap9 w9 hown9 hg9 hat9 hlt9; have HOC := Lib.hid hown9; have HBN := Lib.hid ((HBN.out.alloc HBN.out.size _).grown hg9 (by have := HBN.out.size; simp; omega) (fun j e => (HOB.out.lt j e).1)); have HOR := Lib.hid ((HOR.out.alloc _).kept hg9 (by rcases HNE.out with h | h; exact .inl h; exact .inr h)); clear hown9 hg9 hat9 hlt9)
          | (go_at_call 21; with_reducible refine (fits_is HFBL.out HG.out (by have h := own_rds HOC.out; rwa [← zs_snoc] at h) NBL.out OKBL.out).mono ?_; rintro e wN ⟨rfl, hbN⟩; have HBN := Lib.hid (HBN.out.trans (hbN.mono HBN.out.size)); have HOR := Lib.hid (own_below HOR.out hbN); clear hbN)
          | (refine if_go (by kernel_rfl) ?_; refine wp_append_lies _ (.tmp 99) (.tmp 102) 34 (by rfl) w0.heap.size 3 i0 (.int .i64 0) 1 8 Try.underlying34 hi hz0 hz1 hz2 rfl (by decide) (.slice Ar R.length cr) (R.length) (zs R) (by rfl) (HOR.out.alloc _) ⟨_, 0, none⟩ 1 1 [.int .i64 (g + 1)] (by rfl) rfl (cell_one_new _ _ _) (by intro u hu; simp at hu; subst hu; rfl) (by decide) (by unfold maxLen; omega) (by omega) (by have := HBN.out.size; simp; omega) _ rfl ?_; intro g9 cap9 w9 hown9 hg9 hat9 hlt9; have HOE := Lib.hid hown9; have HBN := Lib.hid ((HBN.out.alloc HBN.out.size _).grown hg9 (by have := HBN.out.size; simp; omega) (fun j e => (HOR.out.lt j e).1)); clear hown9 hg9 hat9 hlt9)
          | (go_at_call 21; with_reducible refine (fits_is HFRL.out HG.out (by have h := own_rds HOE.out; rwa [← zs_snoc] at h) NRL.out OKRL.out).mono ?_; rintro e wN ⟨rfl, hbN⟩; have HBN := Lib.hid (HBN.out.trans (hbN.mono HBN.out.size)); clear hbN)
          | (go_at_call 11; refine (awake_any _).mono ?_; rintro e wN ⟨rfl, hbN⟩; have HBN := Lib.hid (HBN.out.trans (hbN.mono HBN.out.size)); clear hbN))
      go_wp2
      go_ret
      exact ⟨rfl, HB0.out.trans (HBN.out.mono (by omega))⟩

theorem own : ownKnob Try.prog.godebug = none := by kernel_rfl
theorem laidOut : laidOutB Try.prog = true := by kernel_rfl
set_option maxRecDepth 100000 in
theorem lifted (os : Os) (started : os.Started) (H : Type) (enc : TypeId × Value → H) :
    ReturnsInHanded {} Try.checked os 6 .any (Rows.vehiclePartsSpec.pre6 enc Try.prog Try.f6 Rows.vehiclePartsRow.domain false) (Rows.vehiclePartsSpec.post enc Try.prog Try.f6 false true false false) := by
  refine returnsInHanded_of_change (C := Try.checked) own started (by kernel_rfl) Try.func6
    (ChangeSpec.witness6 (enc := enc) (C := Try.checked) false ⟨#[], #[.int .i64 0, .slice none 0 0, .int .i64 0], []⟩ 8 (by kernel_rfl) (by kernel_rfl) (by kernel_rfl) (by kernel_rfl)) ?_
  intro W base args ds gs before hval0 hW hcnd _
  have hval : ∀ (j : Nat) t v, Try.f6.params[j]? = some t → args[j]? = some v → Value.okWide Try.prog W .any base t v := hval0
  have hW' := hW
  obtain ⟨p, q, hA0, hV, rfl, hfz, hnd⟩ := hW
  have hA : DataW.TrodAll enc Try.prog W 0 (fun _ => true) true Try.f6.params.toList args.toList ds p := hA0
  rw [Try.params6] at hA hval
  obtain ⟨v0, vs0, d0, ds0, p0, q0, hargs, rfl, rfl, h0, r0⟩ := trodAll_cons hA
  obtain ⟨v1, vs1, d1, ds1, p1, q1, rfl, rfl, rfl, h1, r1⟩ := trodAll_cons r0
  obtain ⟨v2, vs2, d2, ds2, p2, q2, rfl, rfl, rfl, h2, r2⟩ := trodAll_cons r1
  obtain ⟨rfl, rfl, rfl⟩ := trodAll_nil r2
  obtain rfl : args = #[v0, v1, v2] := by cases args; simp_all
  obtain ⟨rfl, rfl⟩ := trodVars_none hV
  have k0 := h0
  have lt0 : ∀ x ∈ p0, x.block < W.heap.size := by obtain ⟨m, hm⟩ := k0; exact DataW.trod_lt m _ _ _ hm
  have O0 := open_int W (hval 0 3 v0 rfl rfl) h0
  have k1 := h1
  have lt1 : ∀ x ∈ p1, x.block < W.heap.size := by obtain ⟨m, hm⟩ := k1; exact DataW.trod_lt m _ _ _ hm
  have O1 := open_ints W (hval 1 34 v1 rfl rfl) h1
  have k2 := h2
  have lt2 : ∀ x ∈ p2, x.block < W.heap.size := by obtain ⟨m, hm⟩ := k2; exact DataW.trod_lt m _ _ _ hm
  have O2 := open_int W (hval 2 3 v2 rfl rfl) h2
  clear hA0 hval0
  refine (walk W v0 O0 v1 O1 v2 O2).mono fun e W' ⟨he, bel⟩ => ?_
  subst he
  exact ⟨_, rfl, _, _, _, [], _, [], hW', trodAll_mk1 (shut_bool Try.underlying4 _), (trodAll_cons_mk (Below.trod laidOut (by kernel_rfl) (of_decide_eq_true (by kernel_rfl)) k0 bel lt0) (trodAll_cons_mk (Below.trod laidOut (by kernel_rfl) (of_decide_eq_true (by kernel_rfl)) k1 bel lt1) (trodAll_cons_mk (Below.trod laidOut (by kernel_rfl) (of_decide_eq_true (by kernel_rfl)) k2 bel lt2) trodAll_mk0))), rfl, bel.frame _, fun h => by cases h⟩
theorem over : Rows.vehiclePartsRow.holds Try.pinned (OpenSpec.ofChange Rows.vehiclePartsSpec) :=
  OpenClaim.holds_of_wide 6 Try.f6 rfl rfl rfl rfl rfl rfl rfl ⟨rfl, rfl, rfl, rfl, rfl⟩ rfl rfl rfl rfl rfl (by kernel_rfl) Try.func6 (by kernel_rfl)
    (of_decide_eq_true (by kernel_rfl)) (by unfold Func.isWrapper; first | (rw [if_pos (by decide +kernel)]; kernel_rfl) | (rw [if_neg (by decide +kernel)]; exact ⟨rfl, rfl⟩))
    (fun os started H enc _ => lifted os started H enc)
theorem proved : Rows.VehiclePartsSaid := over
#print axioms proved

end Go.Proofs.Ythalbjnjlgnndaa.vehicleParts
