/- VehicleMore: what fits into a vehicle fits into one that carries more, and a vehicle with another kind carries what it carried before (at most 100 loads); the fixed examples hold. No condition. -/
import Derived.Test.YthalbjnjlgnndaaAwake20
import Derived.Test.YthalbjnjlgnndaaOpenV
import Derived.Test.YthalbjnjlgnndaaVehB
import Derived.StillTailTactics
import Derived.Deep.RegionWith
import Derived.Deep.RegionHeld3
import Derived.Deep.DrawnRows
import Derived.Deep.DeepCutAuto
namespace Go.Proofs.Ythalbjnjlgnndaa.vehicleMore
open Go.ChangeShapes Go.WideShapes Go.ChangeAt Go.RowKit
set_option linter.unusedVariables false

set_option maxRecDepth 100000 in
set_option maxHeartbeats 3200000 in
theorem walk_bad (id : ByteArray) (d f t g kinds more kind : Int) (n c : Nat) (A : Option Addr) (w : World) (h : (100 : Int) < n ∨ more < 0 ∨ 1073741824 < g ∨ 1073741824 < more ∨ kind < 0 ∨ 16 ≤ kind ∨ kinds < 0 ∨ 65536 ≤ kinds) (hn : n ≤ maxLen) :
    Calls Try.prog 9 #[.agg #[.string id, .int .i64 d, .int .i64 f, .int .i64 t, .int .i64 g, .int .i64 kinds], .slice A n c, .int .i64 more, .int .i64 kind] w fun e w' => e = .returned (.bool true) ∧ Below w.heap.size w w' := by
  unfold maxLen at hn
  go_enter Try.func9, Try.ntmps9
  go_wp2_with fail
  all_goals
    have hb0 : Below w.heap.size w (w.alloc (.cells #[.string id, .int .i64 d, .int .i64 f, .int .i64 t, .int .i64 g, .int .i64 kinds] 32)) := by go_grown
    refine (awake_any _).mono ?_
    rintro e w9 ⟨rfl, hb9⟩
    have HB9 := Lib.hid (hb0.trans (hb9.mono hb0.size))
    clear hb9
    go_wp2
    go_ret
    exact ⟨rfl, HB9.out⟩
set_option maxRecDepth 100000 in
set_option maxHeartbeats 3200000 in
theorem walk_ok (id : ByteArray) (d f t g kinds more kind : Int) (n c : Nat) (A : Option Addr) (l : List Int) (w : World) (h1 : n ≤ 100) (h2 : 0 ≤ more) (h3 : g ≤ 1073741824) (h4 : more ≤ 1073741824) (h5 : 0 ≤ kind) (h6 : kind < 16) (h7 : 0 ≤ kinds) (h8 : kinds < 65536)
    (hg : i64ok g) (hr : RdS w (· < w.heap.size) A n (zs l)) (hl : ∀ x ∈ l, i64ok x) :
    Calls Try.prog 9 #[.agg #[.string id, .int .i64 d, .int .i64 f, .int .i64 t, .int .i64 g, .int .i64 kinds], .slice A n c, .int .i64 more, .int .i64 kind] w fun e w' => e = .returned (.bool true) ∧ Below w.heap.size w w' := by
  obtain ⟨kk, hkk, hcar⟩ := or_bits h7 h8 h5 h6
  have HCAR := Lib.hid hcar
  have HG := Lib.hid hg
  have HR := Lib.hid hr
  have HOK := Lib.hid hl
  have HKK := Lib.hid hkk
  clear hcar hr hl hkk
  obtain ⟨g0, g1'⟩ := hg
  have HG2 : Hid (i64ok (g + more)) := Lib.hid ⟨by omega, by omega⟩
  have hn : n ≤ maxLen := by unfold maxLen; omega
  have HN := Lib.hid hn
  clear hn
  have k64 : kind ≤ 64 := by omega
  go_enter Try.func9, Try.ntmps9
  go_wp2_with fail
  have k1 := (Blk.new w 32 #[.string id, .int .i64 d, .int .i64 f, .int .i64 t, .int .i64 g, .int .i64 kinds]).alloc (.cells #[.string id, .int .i64 d, .int .i64 f, .int .i64 t, .int .i64 (g + more), .int .i64 kinds] 32)
  have k2 := Blk.new1 w (.cells #[.string id, .int .i64 d, .int .i64 f, .int .i64 t, .int .i64 g, .int .i64 kinds] 32) 32 #[.string id, .int .i64 d, .int .i64 f, .int .i64 t, .int .i64 (g + more), .int .i64 kinds]
  obtain ⟨w0, hw0, hb0⟩ : ∃ w0, (w.alloc (.cells #[.string id, .int .i64 d, .int .i64 f, .int .i64 t, .int .i64 g, .int .i64 kinds] 32)).alloc (.cells #[.string id, .int .i64 d, .int .i64 f, .int .i64 t, .int .i64 (g + more), .int .i64 kinds] 32) = w0 ∧ Below w.heap.size w w0 := ⟨_, rfl, by go_grown⟩
  rw [hw0] at k1 k2 ⊢
  clear hw0
  have HB0 := Lib.hid hb0
  have K1 := Lib.hid k1
  have K2 := Lib.hid k2
  have HR0 := Lib.hid (HR.out.up hb0)
  clear hb0 k1 k2
  refine (fits_any (v := ⟨id, d, f, t, g, kinds⟩) (c := c) HG.out HR0.out HN.out HOK.out).mono ?_
  have hmore : decide (fitP g l) = true → decide (fitP (g + more) l) = true := fun h => decide_eq_true (fitP_more (of_decide_eq_true h) h2)
  obtain ⟨b1, hb1⟩ : ∃ b, decide (fitP g l) = b := ⟨_, rfl⟩
  rw [hb1] at hmore ⊢
  have HB1 := Lib.hid hb1
  have HMORE := Lib.hid hmore
  clear hb1 hmore
  rintro e w1 ⟨rfl, hbx⟩
  have HBa := Lib.hid (HB0.out.trans (hbx.mono HB0.out.size))
  have K1a := Lib.hid (K1.out.grow hbx)
  have K2a := Lib.hid (K2.out.grow hbx)
  have HRa := Lib.hid (HR0.out.up hbx)
  clear hbx
  cases b1
  · have c5 := (K2a.out).cell 5
    have f5 := (K2a.out).frozen 5
    have d5 := (K1a.out).cell 5
    simp at c5 d5
    have e1 : IntKind.i64.wrap (1 * 2 ^ kind.toNat) = 2 ^ kind.toNat := by rw [Int.one_mul]; exact IntWalk.i64_in _ (by have := pow_bd0 kind h5 h6; omega)
    have e2 : IntKind.i64.wrap (2 ^ kind.toNat) = 2 ^ kind.toNat := IntWalk.i64_in _ (by have := pow_bd0 kind h5 h6; omega)
    have e3 := HKK.out
    go_wp2_with fail
    refine wp_region_still_tail 6 (by kernel_rfl) (by kernel_rfl) ?_
    simp only [List.take_succ_cons, List.take_zero, List.drop_succ_cons, List.drop_zero]
    repeat still_step
    refine wpStill_nil ?_
    go_wp2_with fail
    have k1 := (K1a.out).far (p := ⟨w.heap.size + 1, 5, none⟩) (by simp) (.int .i64 kk)
    have k2 := (K2a.out).set_ 5 (.int .i64 kk)
    obtain ⟨w3, hw3, hb3⟩ : ∃ w3, ((w1).setCell ⟨w.heap.size + 1, 5, none⟩ (.int .i64 kk)).drew = w3 ∧ Below w.heap.size w w3 := ⟨_, rfl, (HBa.out.setCell (by simp) _).drew⟩
    rw [hw3]
    have k1' : Blk w3 w.heap.size 32 #[.string id, .int .i64 d, .int .i64 f, .int .i64 t, .int .i64 g, .int .i64 kinds] := by rw [← hw3]; exact k1
    have k2' : Blk w3 (w.heap.size + 1) 32 #[.string id, .int .i64 d, .int .i64 f, .int .i64 t, .int .i64 (g + more), .int .i64 kk] := by rw [← hw3]; exact k2
    have K1c := Lib.hid k1'
    have K2c := Lib.hid k2'
    have HBc := Lib.hid hb3
    clear k1 k2 k1' k2' hw3 hb3 c5 f5 d5 e1 e2 e3
    go_loopw [10] (fun v wr => ∃ k : Nat, k ≤ 16 ∧ v = .int .i64 (k : Nat) ∧ Below w3.heap.size w3 wr) (fun v _ => 16 - (intOf v).toNat)
    case atStart => exact ⟨0, Nat.zero_le _, rfl, Below.refl _ _⟩
    case round =>
      obtain ⟨k, hk, rfl, hbel⟩ := hrel
      have HBr := Lib.hid hbel
      clear hbel
      by_cases hlt : k < 16
      · have HS : Hid (∀ W, Below w3.heap.size w3 W → (Below w3.heap.size w3 W ∧ W.cell? ⟨w.heap.size, 0, none⟩ = some (.string id) ∧ W.cell? ⟨w.heap.size, 1, none⟩ = some (.int .i64 d) ∧ W.cell? ⟨w.heap.size, 2, none⟩ = some (.int .i64 f) ∧ W.cell? ⟨w.heap.size, 3, none⟩ = some (.int .i64 t) ∧ W.cell? ⟨w.heap.size, 4, none⟩ = some (.int .i64 g) ∧ W.cell? ⟨w.heap.size, 5, none⟩ = some (.int .i64 kinds) ∧ W.cell? ⟨w.heap.size + 1, 0, none⟩ = some (.string id) ∧ W.cell? ⟨w.heap.size + 1, 1, none⟩ = some (.int .i64 d) ∧ W.cell? ⟨w.heap.size + 1, 2, none⟩ = some (.int .i64 f) ∧ W.cell? ⟨w.heap.size + 1, 3, none⟩ = some (.int .i64 t) ∧ W.cell? ⟨w.heap.size + 1, 4, none⟩ = some (.int .i64 (g + more)) ∧ W.cell? ⟨w.heap.size + 1, 5, none⟩ = some (.int .i64 kk))) := Lib.hid (fun W hW => by
          have q1 := K1c.out.grow hW
          have q2 := K2c.out.grow hW
          exact ⟨hW, q1.cell 0, q1.cell 1, q1.cell 2, q1.cell 3, q1.cell 4, q1.cell 5, q2.cell 0, q2.cell 1, q2.cell 2, q2.cell 3, q2.cell 4, q2.cell 5⟩)
        have HI := Lib.hid (HS.out wr HBr.out)
        have hc := HCAR.out k hlt
        obtain ⟨b0, hb0⟩ : ∃ y, carB kinds (k : Int) = y := ⟨_, rfl⟩
        rw [hb0] at hc
        by_cases hkk : (k : Int) = kind
        · rw [decide_eq_true hkk, Bool.or_true] at hc
          have hq : ((k : Int) == kind) = true := by simpa using hkk
          have HC1 := Lib.hid hc
          have HC0 := Lib.hid hb0
          clear hc hb0 hkk
          cases b0
          · go_wp2_with fail
            obtain ⟨s0, s1, s2, s3, s4, s5, s6, t1, t2, t3, t4, t5, t6⟩ := HI.out
            go_region_held3 (fun W => Below w3.heap.size w3 W ∧ W.cell? ⟨w.heap.size, 0, none⟩ = some (.string id) ∧ W.cell? ⟨w.heap.size, 1, none⟩ = some (.int .i64 d) ∧ W.cell? ⟨w.heap.size, 2, none⟩ = some (.int .i64 f) ∧ W.cell? ⟨w.heap.size, 3, none⟩ = some (.int .i64 t) ∧ W.cell? ⟨w.heap.size, 4, none⟩ = some (.int .i64 g) ∧ W.cell? ⟨w.heap.size, 5, none⟩ = some (.int .i64 kinds) ∧ W.cell? ⟨w.heap.size + 1, 0, none⟩ = some (.string id) ∧ W.cell? ⟨w.heap.size + 1, 1, none⟩ = some (.int .i64 d) ∧ W.cell? ⟨w.heap.size + 1, 2, none⟩ = some (.int .i64 f) ∧ W.cell? ⟨w.heap.size + 1, 3, none⟩ = some (.int .i64 t) ∧ W.cell? ⟨w.heap.size + 1, 4, none⟩ = some (.int .i64 (g + more)) ∧ W.cell? ⟨w.heap.size + 1, 5, none⟩ = some (.int .i64 kk))
              (first | exact HS.out _ HBN.out | exact HI.out | exact HS.out _ ⟨s0.os, s0.tape, s0.output, s0.size, s0.block⟩)
              (first
                | (go_split_ands; go_at_call 14; refine (carries_c _ _ _ _ _ _ _ _).mono ?_; (first | rw [HC1.out] | rw [HC0.out]); rintro e wN ⟨rfl, hbN⟩; have HBL := Lib.hid hbN; have HBN := Lib.hid (Below.trans (show Below w3.heap.size w3 _ by assumption) (hbN.mono (Below.size (show Below w3.heap.size w3 _ by assumption)))); clear hbN))
            clear s0 s1 s2 s3 s4 s5 s6 t1 t2 t3 t4 t5 t6
            go_wp2
            go_roundw
            case rel => exact ⟨k + 1, by omega, by go_num, HBN.out⟩
            case measure => simp [intOf]; omega
          · go_wp2_with fail
            obtain ⟨s0, s1, s2, s3, s4, s5, s6, t1, t2, t3, t4, t5, t6⟩ := HI.out
            replace s0 := s0.drew
            first
            | (go_region_with (first | (go_at_call 14; refine (carries_c _ _ _ _ _ _ _ _).mono ?_; (first | rw [HC1.out] | rw [HC0.out]); rintro e wN ⟨rfl, hbN⟩; have HBN := Lib.hid (Below.trans (show Below w3.heap.size w3 _ by assumption) (hbN.mono (Below.size (show Below w3.heap.size w3 _ by assumption)))); clear hbN s0 s1 s2 s3 s4 s5 s6 t1 t2 t3 t4 t5 t6; obtain ⟨s0, s1, s2, s3, s4, s5, s6, t1, t2, t3, t4, t5, t6⟩ := HS.out _ HBN.out)))
            | fail
            all_goals
              clear s0 s1 s2 s3 s4 s5 s6 t1 t2 t3 t4 t5 t6
              go_wp2
              go_roundw
              case rel => exact ⟨k + 1, by omega, by go_num, HBN.out⟩
              case measure => simp [intOf]; omega
        · rw [decide_eq_false hkk, Bool.or_false] at hc
          have hq : ((k : Int) == kind) = false := by simpa using hkk
          have HC1 := Lib.hid hc
          have HC0 := Lib.hid hb0
          clear hc hb0 hkk
          cases b0
          · go_wp2_with fail
            obtain ⟨s0, s1, s2, s3, s4, s5, s6, t1, t2, t3, t4, t5, t6⟩ := HI.out
            go_region_held3 (fun W => Below w3.heap.size w3 W ∧ W.cell? ⟨w.heap.size, 0, none⟩ = some (.string id) ∧ W.cell? ⟨w.heap.size, 1, none⟩ = some (.int .i64 d) ∧ W.cell? ⟨w.heap.size, 2, none⟩ = some (.int .i64 f) ∧ W.cell? ⟨w.heap.size, 3, none⟩ = some (.int .i64 t) ∧ W.cell? ⟨w.heap.size, 4, none⟩ = some (.int .i64 g) ∧ W.cell? ⟨w.heap.size, 5, none⟩ = some (.int .i64 kinds) ∧ W.cell? ⟨w.heap.size + 1, 0, none⟩ = some (.string id) ∧ W.cell? ⟨w.heap.size + 1, 1, none⟩ = some (.int .i64 d) ∧ W.cell? ⟨w.heap.size + 1, 2, none⟩ = some (.int .i64 f) ∧ W.cell? ⟨w.heap.size + 1, 3, none⟩ = some (.int .i64 t) ∧ W.cell? ⟨w.heap.size + 1, 4, none⟩ = some (.int .i64 (g + more)) ∧ W.cell? ⟨w.heap.size + 1, 5, none⟩ = some (.int .i64 kk))
              (first | exact HS.out _ HBN.out | exact HI.out | exact HS.out _ ⟨s0.os, s0.tape, s0.output, s0.size, s0.block⟩)
              (first
                | (go_split_ands; go_at_call 14; refine (carries_c _ _ _ _ _ _ _ _).mono ?_; (first | rw [HC1.out] | rw [HC0.out]); rintro e wN ⟨rfl, hbN⟩; have HBL := Lib.hid hbN; have HBN := Lib.hid (Below.trans (show Below w3.heap.size w3 _ by assumption) (hbN.mono (Below.size (show Below w3.heap.size w3 _ by assumption)))); clear hbN))
            clear s0 s1 s2 s3 s4 s5 s6 t1 t2 t3 t4 t5 t6
            go_wp2
            go_roundw
            case rel => exact ⟨k + 1, by omega, by go_num, HBN.out⟩
            case measure => simp [intOf]; omega
          · go_wp2_with fail
            obtain ⟨s0, s1, s2, s3, s4, s5, s6, t1, t2, t3, t4, t5, t6⟩ := HI.out
            replace s0 := s0.drew
            first
            | (go_region_with (first | (go_at_call 14; refine (carries_c _ _ _ _ _ _ _ _).mono ?_; (first | rw [HC1.out] | rw [HC0.out]); rintro e wN ⟨rfl, hbN⟩; have HBN := Lib.hid (Below.trans (show Below w3.heap.size w3 _ by assumption) (hbN.mono (Below.size (show Below w3.heap.size w3 _ by assumption)))); clear hbN s0 s1 s2 s3 s4 s5 s6 t1 t2 t3 t4 t5 t6; obtain ⟨s0, s1, s2, s3, s4, s5, s6, t1, t2, t3, t4, t5, t6⟩ := HS.out _ HBN.out)))
            | fail
            all_goals
              clear s0 s1 s2 s3 s4 s5 s6 t1 t2 t3 t4 t5 t6
              go_wp2
              go_roundw
              case rel => exact ⟨k + 1, by omega, by go_num, HBN.out⟩
              case measure => simp [intOf]; omega
      · have e : k = 16 := by omega
        subst e
        have HBz := Lib.hid (HBc.out.trans (HBr.out.mono HBc.out.size))
        go_wp2_with fail
        refine (awake_any _).mono ?_
        rintro e w9 ⟨rfl, hb9⟩
        have HB9 := Lib.hid (HBz.out.trans (hb9.mono HBz.out.size))
        clear hb9
        go_wp2
        go_ret
        exact ⟨rfl, HB9.out⟩
  · have hmt := HMORE.out rfl
    have HMT := Lib.hid hmt
    clear hmt
    have c0 := K2a.out.cell 0
    have c1 := K2a.out.cell 1
    have c2 := K2a.out.cell 2
    have c3 := K2a.out.cell 3
    have c4 := K2a.out.cell 4
    have c5 := K2a.out.cell 5
    simp at c0 c1 c2 c3 c4 c5
    go_wp2_with fail
    refine (fits_any (v := ⟨id, d, f, t, g + more, kinds⟩) (c := c) HG2.out HRa.out HN.out HOK.out).mono ?_
    rw [HMT.out]
    rintro e w2 ⟨rfl, hbx⟩
    have HBb := Lib.hid (HBa.out.trans (hbx.mono HBa.out.size))
    have K1b := Lib.hid (K1a.out.grow hbx)
    have K2b := Lib.hid (K2a.out.grow hbx)
    clear hbx c0 c1 c2 c3 c4 c5
    have c5 := (K2b.out).cell 5
    have f5 := (K2b.out).frozen 5
    have d5 := (K1b.out).cell 5
    simp at c5 d5
    have e1 : IntKind.i64.wrap (1 * 2 ^ kind.toNat) = 2 ^ kind.toNat := by rw [Int.one_mul]; exact IntWalk.i64_in _ (by have := pow_bd0 kind h5 h6; omega)
    have e2 : IntKind.i64.wrap (2 ^ kind.toNat) = 2 ^ kind.toNat := IntWalk.i64_in _ (by have := pow_bd0 kind h5 h6; omega)
    have e3 := HKK.out
    go_wp2_with fail
    refine wp_region_still_tail 6 (by kernel_rfl) (by kernel_rfl) ?_
    simp only [List.take_succ_cons, List.take_zero, List.drop_succ_cons, List.drop_zero]
    repeat still_step
    refine wpStill_nil ?_
    go_wp2_with fail
    have k1 := (K1b.out).far (p := ⟨w.heap.size + 1, 5, none⟩) (by simp) (.int .i64 kk)
    have k2 := (K2b.out).set_ 5 (.int .i64 kk)
    obtain ⟨w3, hw3, hb3⟩ : ∃ w3, ((w2).setCell ⟨w.heap.size + 1, 5, none⟩ (.int .i64 kk)).drew = w3 ∧ Below w.heap.size w w3 := ⟨_, rfl, (HBb.out.setCell (by simp) _).drew⟩
    rw [hw3]
    have k1' : Blk w3 w.heap.size 32 #[.string id, .int .i64 d, .int .i64 f, .int .i64 t, .int .i64 g, .int .i64 kinds] := by rw [← hw3]; exact k1
    have k2' : Blk w3 (w.heap.size + 1) 32 #[.string id, .int .i64 d, .int .i64 f, .int .i64 t, .int .i64 (g + more), .int .i64 kk] := by rw [← hw3]; exact k2
    have K1c := Lib.hid k1'
    have K2c := Lib.hid k2'
    have HBc := Lib.hid hb3
    clear k1 k2 k1' k2' hw3 hb3 c5 f5 d5 e1 e2 e3
    go_loopw [10] (fun v wr => ∃ k : Nat, k ≤ 16 ∧ v = .int .i64 (k : Nat) ∧ Below w3.heap.size w3 wr) (fun v _ => 16 - (intOf v).toNat)
    case atStart => exact ⟨0, Nat.zero_le _, rfl, Below.refl _ _⟩
    case round =>
      obtain ⟨k, hk, rfl, hbel⟩ := hrel
      have HBr := Lib.hid hbel
      clear hbel
      by_cases hlt : k < 16
      · have HS : Hid (∀ W, Below w3.heap.size w3 W → (Below w3.heap.size w3 W ∧ W.cell? ⟨w.heap.size, 0, none⟩ = some (.string id) ∧ W.cell? ⟨w.heap.size, 1, none⟩ = some (.int .i64 d) ∧ W.cell? ⟨w.heap.size, 2, none⟩ = some (.int .i64 f) ∧ W.cell? ⟨w.heap.size, 3, none⟩ = some (.int .i64 t) ∧ W.cell? ⟨w.heap.size, 4, none⟩ = some (.int .i64 g) ∧ W.cell? ⟨w.heap.size, 5, none⟩ = some (.int .i64 kinds) ∧ W.cell? ⟨w.heap.size + 1, 0, none⟩ = some (.string id) ∧ W.cell? ⟨w.heap.size + 1, 1, none⟩ = some (.int .i64 d) ∧ W.cell? ⟨w.heap.size + 1, 2, none⟩ = some (.int .i64 f) ∧ W.cell? ⟨w.heap.size + 1, 3, none⟩ = some (.int .i64 t) ∧ W.cell? ⟨w.heap.size + 1, 4, none⟩ = some (.int .i64 (g + more)) ∧ W.cell? ⟨w.heap.size + 1, 5, none⟩ = some (.int .i64 kk))) := Lib.hid (fun W hW => by
          have q1 := K1c.out.grow hW
          have q2 := K2c.out.grow hW
          exact ⟨hW, q1.cell 0, q1.cell 1, q1.cell 2, q1.cell 3, q1.cell 4, q1.cell 5, q2.cell 0, q2.cell 1, q2.cell 2, q2.cell 3, q2.cell 4, q2.cell 5⟩)
        have HI := Lib.hid (HS.out wr HBr.out)
        have hc := HCAR.out k hlt
        obtain ⟨b0, hb0⟩ : ∃ y, carB kinds (k : Int) = y := ⟨_, rfl⟩
        rw [hb0] at hc
        by_cases hkk : (k : Int) = kind
        · rw [decide_eq_true hkk, Bool.or_true] at hc
          have hq : ((k : Int) == kind) = true := by simpa using hkk
          have HC1 := Lib.hid hc
          have HC0 := Lib.hid hb0
          clear hc hb0 hkk
          cases b0
          · go_wp2_with fail
            obtain ⟨s0, s1, s2, s3, s4, s5, s6, t1, t2, t3, t4, t5, t6⟩ := HI.out
            go_region_held3 (fun W => Below w3.heap.size w3 W ∧ W.cell? ⟨w.heap.size, 0, none⟩ = some (.string id) ∧ W.cell? ⟨w.heap.size, 1, none⟩ = some (.int .i64 d) ∧ W.cell? ⟨w.heap.size, 2, none⟩ = some (.int .i64 f) ∧ W.cell? ⟨w.heap.size, 3, none⟩ = some (.int .i64 t) ∧ W.cell? ⟨w.heap.size, 4, none⟩ = some (.int .i64 g) ∧ W.cell? ⟨w.heap.size, 5, none⟩ = some (.int .i64 kinds) ∧ W.cell? ⟨w.heap.size + 1, 0, none⟩ = some (.string id) ∧ W.cell? ⟨w.heap.size + 1, 1, none⟩ = some (.int .i64 d) ∧ W.cell? ⟨w.heap.size + 1, 2, none⟩ = some (.int .i64 f) ∧ W.cell? ⟨w.heap.size + 1, 3, none⟩ = some (.int .i64 t) ∧ W.cell? ⟨w.heap.size + 1, 4, none⟩ = some (.int .i64 (g + more)) ∧ W.cell? ⟨w.heap.size + 1, 5, none⟩ = some (.int .i64 kk))
              (first | exact HS.out _ HBN.out | exact HI.out | exact HS.out _ ⟨s0.os, s0.tape, s0.output, s0.size, s0.block⟩)
              (first
                | (go_split_ands; go_at_call 14; refine (carries_c _ _ _ _ _ _ _ _).mono ?_; (first | rw [HC1.out] | rw [HC0.out]); rintro e wN ⟨rfl, hbN⟩; have HBL := Lib.hid hbN; have HBN := Lib.hid (Below.trans (show Below w3.heap.size w3 _ by assumption) (hbN.mono (Below.size (show Below w3.heap.size w3 _ by assumption)))); clear hbN))
            clear s0 s1 s2 s3 s4 s5 s6 t1 t2 t3 t4 t5 t6
            go_wp2
            go_roundw
            case rel => exact ⟨k + 1, by omega, by go_num, HBN.out⟩
            case measure => simp [intOf]; omega
          · go_wp2_with fail
            obtain ⟨s0, s1, s2, s3, s4, s5, s6, t1, t2, t3, t4, t5, t6⟩ := HI.out
            replace s0 := s0.drew
            first
            | (go_region_with (first | (go_at_call 14; refine (carries_c _ _ _ _ _ _ _ _).mono ?_; (first | rw [HC1.out] | rw [HC0.out]); rintro e wN ⟨rfl, hbN⟩; have HBN := Lib.hid (Below.trans (show Below w3.heap.size w3 _ by assumption) (hbN.mono (Below.size (show Below w3.heap.size w3 _ by assumption)))); clear hbN s0 s1 s2 s3 s4 s5 s6 t1 t2 t3 t4 t5 t6; obtain ⟨s0, s1, s2, s3, s4, s5, s6, t1, t2, t3, t4, t5, t6⟩ := HS.out _ HBN.out)))
            | fail
            all_goals
              clear s0 s1 s2 s3 s4 s5 s6 t1 t2 t3 t4 t5 t6
              go_wp2
              go_roundw
              case rel => exact ⟨k + 1, by omega, by go_num, HBN.out⟩
              case measure => simp [intOf]; omega
        · rw [decide_eq_false hkk, Bool.or_false] at hc
          have hq : ((k : Int) == kind) = false := by simpa using hkk
          have HC1 := Lib.hid hc
          have HC0 := Lib.hid hb0
          clear hc hb0 hkk
          cases b0
          · go_wp2_with fail
            obtain ⟨s0, s1, s2, s3, s4, s5, s6, t1, t2, t3, t4, t5, t6⟩ := HI.out
            go_region_held3 (fun W => Below w3.heap.size w3 W ∧ W.cell? ⟨w.heap.size, 0, none⟩ = some (.string id) ∧ W.cell? ⟨w.heap.size, 1, none⟩ = some (.int .i64 d) ∧ W.cell? ⟨w.heap.size, 2, none⟩ = some (.int .i64 f) ∧ W.cell? ⟨w.heap.size, 3, none⟩ = some (.int .i64 t) ∧ W.cell? ⟨w.heap.size, 4, none⟩ = some (.int .i64 g) ∧ W.cell? ⟨w.heap.size, 5, none⟩ = some (.int .i64 kinds) ∧ W.cell? ⟨w.heap.size + 1, 0, none⟩ = some (.string id) ∧ W.cell? ⟨w.heap.size + 1, 1, none⟩ = some (.int .i64 d) ∧ W.cell? ⟨w.heap.size + 1, 2, none⟩ = some (.int .i64 f) ∧ W.cell? ⟨w.heap.size + 1, 3, none⟩ = some (.int .i64 t) ∧ W.cell? ⟨w.heap.size + 1, 4, none⟩ = some (.int .i64 (g + more)) ∧ W.cell? ⟨w.heap.size + 1, 5, none⟩ = some (.int .i64 kk))
              (first | exact HS.out _ HBN.out | exact HI.out | exact HS.out _ ⟨s0.os, s0.tape, s0.output, s0.size, s0.block⟩)
              (first
                | (go_split_ands; go_at_call 14; refine (carries_c _ _ _ _ _ _ _ _).mono ?_; (first | rw [HC1.out] | rw [HC0.out]); rintro e wN ⟨rfl, hbN⟩; have HBL := Lib.hid hbN; have HBN := Lib.hid (Below.trans (show Below w3.heap.size w3 _ by assumption) (hbN.mono (Below.size (show Below w3.heap.size w3 _ by assumption)))); clear hbN))
            clear s0 s1 s2 s3 s4 s5 s6 t1 t2 t3 t4 t5 t6
            go_wp2
            go_roundw
            case rel => exact ⟨k + 1, by omega, by go_num, HBN.out⟩
            case measure => simp [intOf]; omega
          · go_wp2_with fail
            obtain ⟨s0, s1, s2, s3, s4, s5, s6, t1, t2, t3, t4, t5, t6⟩ := HI.out
            replace s0 := s0.drew
            first
            | (go_region_with (first | (go_at_call 14; refine (carries_c _ _ _ _ _ _ _ _).mono ?_; (first | rw [HC1.out] | rw [HC0.out]); rintro e wN ⟨rfl, hbN⟩; have HBN := Lib.hid (Below.trans (show Below w3.heap.size w3 _ by assumption) (hbN.mono (Below.size (show Below w3.heap.size w3 _ by assumption)))); clear hbN s0 s1 s2 s3 s4 s5 s6 t1 t2 t3 t4 t5 t6; obtain ⟨s0, s1, s2, s3, s4, s5, s6, t1, t2, t3, t4, t5, t6⟩ := HS.out _ HBN.out)))
            | fail
            all_goals
              clear s0 s1 s2 s3 s4 s5 s6 t1 t2 t3 t4 t5 t6
              go_wp2
              go_roundw
              case rel => exact ⟨k + 1, by omega, by go_num, HBN.out⟩
              case measure => simp [intOf]; omega
      · have e : k = 16 := by omega
        subst e
        have HBz := Lib.hid (HBc.out.trans (HBr.out.mono HBc.out.size))
        go_wp2_with fail
        refine (awake_any _).mono ?_
        rintro e w9 ⟨rfl, hb9⟩
        have HB9 := Lib.hid (HBz.out.trans (hb9.mono HBz.out.size))
        clear hb9
        go_wp2
        go_ret
        exact ⟨rfl, HB9.out⟩
theorem walk (w : World) (v0 : Value) (hv0 : IsVeh v0) (v1 : Value) (hv1 : IsInts w v1) (v2 : Value) (hv2 : IsInt .i64 v2) (v3 : Value) (hv3 : IsInt .i64 v3) :
    Calls Try.prog 9 #[v0, v1, v2, v3] w fun e w' => e = .returned (.bool true) ∧ Below w.heap.size w w' := by
  obtain ⟨⟨id, d, f, t, g, kinds⟩, rfl, _, _, _, _, hg, _⟩ := hv0
  obtain ⟨A, n, c, l, rfl, hr, hn, hnc, hok⟩ := hv1
  obtain ⟨more, rfl, _⟩ := hv2
  obtain ⟨kind, rfl, _⟩ := hv3
  by_cases h : (100 : Int) < n ∨ more < 0 ∨ 1073741824 < g ∨ 1073741824 < more ∨ kind < 0 ∨ 16 ≤ kind ∨ kinds < 0 ∨ 65536 ≤ kinds
  · exact walk_bad id d f t g kinds more kind n c A w h hn
  · exact walk_ok id d f t g kinds more kind n c A l w (by omega) (by omega) (by omega) (by omega) (by omega) (by omega) (by omega) (by omega) hg hr hok

theorem own : ownKnob Try.prog.godebug = none := by kernel_rfl
theorem laidOut : laidOutB Try.prog = true := by kernel_rfl
set_option maxRecDepth 100000 in
theorem lifted (os : Os) (started : os.Started) (H : Type) (enc : TypeId × Value → H) :
    ReturnsInHanded {} Try.checked os 9 .any (Rows.vehicleMoreSpec.pre6 enc Try.prog Try.f9 Rows.vehicleMoreRow.domain false) (Rows.vehicleMoreSpec.post enc Try.prog Try.f9 false true false false) := by
  refine returnsInHanded_of_change (C := Try.checked) own started (by kernel_rfl) Try.func9
    (ChangeSpec.witness6 (enc := enc) (C := Try.checked) false ⟨#[], #[.agg #[.string ⟨#[]⟩, .int .i64 0, .int .i64 0, .int .i64 0, .int .i64 0, .int .i64 0], .slice none 0 0, .int .i64 0, .int .i64 0], []⟩ 8 (by kernel_rfl) (by kernel_rfl) (by kernel_rfl) (by kernel_rfl)) ?_
  intro W base args ds gs before hval0 hW hcnd _
  have hval : ∀ (j : Nat) t v, Try.f9.params[j]? = some t → args[j]? = some v → Value.okWide Try.prog W .any base t v := hval0
  have hW' := hW
  obtain ⟨p, q, hA0, hV, rfl, hfz, hnd⟩ := hW
  have hA : DataW.TrodAll enc Try.prog W 0 (fun _ => true) true Try.f9.params.toList args.toList ds p := hA0
  rw [Try.params9] at hA hval
  obtain ⟨v0, vs0, d0, ds0, p0, q0, hargs, rfl, rfl, h0, r0⟩ := trodAll_cons hA
  obtain ⟨v1, vs1, d1, ds1, p1, q1, rfl, rfl, rfl, h1, r1⟩ := trodAll_cons r0
  obtain ⟨v2, vs2, d2, ds2, p2, q2, rfl, rfl, rfl, h2, r2⟩ := trodAll_cons r1
  obtain ⟨v3, vs3, d3, ds3, p3, q3, rfl, rfl, rfl, h3, r3⟩ := trodAll_cons r2
  obtain ⟨rfl, rfl, rfl⟩ := trodAll_nil r3
  obtain rfl : args = #[v0, v1, v2, v3] := by cases args; simp_all
  obtain ⟨rfl, rfl⟩ := trodVars_none hV
  have k0 := h0
  have lt0 : ∀ x ∈ p0, x.block < W.heap.size := by obtain ⟨m, hm⟩ := k0; exact DataW.trod_lt m _ _ _ hm
  have O0 := open_veh W (hval 0 32 v0 rfl rfl) h0
  have k1 := h1
  have lt1 : ∀ x ∈ p1, x.block < W.heap.size := by obtain ⟨m, hm⟩ := k1; exact DataW.trod_lt m _ _ _ hm
  have O1 := open_ints W (hval 1 34 v1 rfl rfl) h1
  have k2 := h2
  have lt2 : ∀ x ∈ p2, x.block < W.heap.size := by obtain ⟨m, hm⟩ := k2; exact DataW.trod_lt m _ _ _ hm
  have O2 := open_int W (hval 2 3 v2 rfl rfl) h2
  have k3 := h3
  have lt3 : ∀ x ∈ p3, x.block < W.heap.size := by obtain ⟨m, hm⟩ := k3; exact DataW.trod_lt m _ _ _ hm
  have O3 := open_int W (hval 3 3 v3 rfl rfl) h3
  clear hA0 hval0
  refine (walk W v0 O0 v1 O1 v2 O2 v3 O3).mono fun e W' ⟨he, bel⟩ => ?_
  subst he
  exact ⟨_, rfl, _, _, _, [], _, [], hW', trodAll_mk1 (shut_bool Try.underlying4 _), (trodAll_cons_mk (Below.trod laidOut (by kernel_rfl) (of_decide_eq_true (by kernel_rfl)) k0 bel lt0) (trodAll_cons_mk (Below.trod laidOut (by kernel_rfl) (of_decide_eq_true (by kernel_rfl)) k1 bel lt1) (trodAll_cons_mk (Below.trod laidOut (by kernel_rfl) (of_decide_eq_true (by kernel_rfl)) k2 bel lt2) (trodAll_cons_mk (Below.trod laidOut (by kernel_rfl) (of_decide_eq_true (by kernel_rfl)) k3 bel lt3) trodAll_mk0)))), rfl, bel.frame _, fun h => by cases h⟩
theorem over : Rows.vehicleMoreRow.holds Try.pinned (OpenSpec.ofChange Rows.vehicleMoreSpec) :=
  OpenClaim.holds_of_wide 9 Try.f9 rfl rfl rfl rfl rfl rfl rfl ⟨rfl, rfl, rfl, rfl, rfl⟩ rfl rfl rfl rfl rfl (by kernel_rfl) Try.func9 (by kernel_rfl)
    (of_decide_eq_true (by kernel_rfl)) (by unfold Func.isWrapper; first | (rw [if_pos (by decide +kernel)]; kernel_rfl) | (rw [if_neg (by decide +kernel)]; exact ⟨rfl, rfl⟩))
    (fun os started H enc _ => lifted os started H enc)
theorem proved : Rows.VehicleMoreSaid := over
#print axioms proved

end Go.Proofs.Ythalbjnjlgnndaa.vehicleMore
