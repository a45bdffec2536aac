/- exact.candidates$1: the walk. -/
import Derived.Test.YtmoakdplhfgipaaExaA
namespace Go.Proofs.Ytmoakdplhfgipaa
set_option maxRecDepth 20000
open Go.RowKit Go.Maps

theorem infoInt1 : (Try.prog.info? 3).map (fun i => (i.zero, i.size, i.bytes)) = some (some (.int .i64 0), 1, 8) := by kernel_rfl
set_option maxRecDepth 100000 in
set_option maxHeartbeats 6400000 in
theorem cand1_any {J : World → Prop} {B0 : Nat} {w0 : World} {lb : Array Value} {A : Option Addr} {nd cd : Nat} {Dm : List Int} {db sb U ub T tb yb : Nat} (hJ : ∀ W W', J W → Kp (fun b => b = U ∨ b = T ∨ b = tb) W W' → J W') (hnd : nd ≤ 3)
    (hsee : ∀ W k S, J W → k ≤ 2 * nd → tb < W.heap.size → RdS W (· < W.heap.size) (some ⟨T, 0, none⟩) k (zs S) → Calls Try.prog 24 (#[.slice (some ⟨T, 0, none⟩) k (2 * nd)] ++ lb) W fun e w' => e = .returned (.tuple #[]) ∧ J w' ∧ Kp (fun b => B0 ≤ b ∧ b < db) W w') :
    ∀ (left : Nat) (W : World) (k : Nat), k + 2 * left ≤ 2 * nd → CS J B0 w0 W lb A nd cd Dm db sb U ub T tb yb k →
      Calls Try.prog 44 #[.int .i64 (left : Int), .pointer (some ⟨sb, 0, none⟩), .pointer (some ⟨tb, 0, none⟩), .pointer (some ⟨db, 0, none⟩), .pointer (some ⟨ub, 0, none⟩), .pointer (some ⟨yb, 0, none⟩)] W fun e w' => e = .returned (.tuple #[]) ∧ CS J B0 w0 w' lb A nd cd Dm db sb U ub T tb yb k := by
  intro left
  have HJ := Lib.hid hJ
  have HSE := Lib.hid hsee
  clear hJ hsee
  induction left with
  | zero =>
    intro W k hk h
    obtain ⟨S, hr⟩ := h.stops (by omega)
    have HC := Lib.hid (HSE.out W k S h.j (by omega) h.t.lt hr)
    have HS := Lib.hid h
    have c0 := h.s.cell 0
    have c1 := h.t.cell 0
    simp at c0 c1
    clear h hr
    go_enter Try.func44, Try.ntmps44
    go_wp2_with fail
    refine HC.out.mono ?_
    rintro e w1 ⟨rfl, hj1, hk1⟩
    have HS1 := Lib.hid (HS.out.kp hk1 (fun b hb => hb) hj1)
    clear hj1 hk1
    go_wp2_with fail
    refine bodyPost_ret (results_none rfl _ _ _) rfl ⟨rfl, HS1.out⟩
  | succ left ih =>
    intro W k hk h
    have HIH := Lib.hid ih
    clear ih
    have HS := Lib.hid h
    have hle1 : left + 1 ≤ 3 := by omega
    have hlw : ((left + 1 : Nat) : Int) - 1 = (left : Nat) := by omega
    have hlz : (((left + 1 : Nat) : Int) == 0) = false := by simp; omega
    have c1 := h.t.cell 0
    have c2 := h.d.cell 0
    simp at c1 c2
    clear h
    go_enter Try.func44, Try.ntmps44
    go_wp2_with fail
    clear c1 c2
    go_loopw [19] (fun i wr => ∃ j : Nat, j ≤ nd ∧ i = .int .i64 (j : Nat) ∧ CS J B0 w0 wr lb A nd cd Dm db sb U ub T tb yb k) (fun i _ => nd - (intOf i).toNat)
    case atStart => exact ⟨0, Nat.zero_le _, rfl, HS.out⟩
    case round =>
      obtain ⟨j, hj, rfl, hs⟩ := hrel
      have HS0 := Lib.hid hs
      by_cases hlt : j < nd
      · have hdl := hs.dm.1
        rw [zs_len] at hdl
        obtain ⟨x, hx⟩ := at_lt (l := Dm) (k := j) (by rw [hdl]; exact hlt)
        obtain ⟨b, o, rfl, hb, hcc⟩ := hs.dm.2 (by omega)
        have c0 := hcc j _ (zs_at hx)
        obtain ⟨bs, hbs, hur⟩ := hs.ur
        obtain ⟨bb, hbb⟩ := at_lt (l := bs) (k := j) (by rw [hbs]; exact hlt)
        have c1 := hs.u.cell 0
        have c2 := hur.cell j
        have f2 := hur.frozen j
        simp [hbb] at c1 c2
        clear hcc hx hdl hur hbb hs
        cases bb with
        | true =>
          go_wp2_with fail
          go_roundw
          case rel => exact ⟨j + 1, by omega, by go_num, HS0.out⟩
          case measure => simp [intOf]; omega
        | false =>
          have h1 := HS0.out.used HJ.out j true
          obtain ⟨W1, hW1⟩ : ∃ W1, wr.setCell ⟨U, j, none⟩ (.bool true) = W1 := ⟨_, rfl⟩
          rw [hW1] at h1
          have h2 := h1.up HJ.out (W' := W1.alloc (.cells #[.int .i64 x] 3)) (by go_grown)
          have n2 := (Blk.new W1 3 #[.int .i64 x]).cell 0
          obtain ⟨W2, hW2⟩ : ∃ W2, W1.alloc (.cells #[.int .i64 x] 3) = W2 := ⟨_, rfl⟩
          rw [hW2] at h2 n2
          have h3 := h2.row HJ.out k x
          obtain ⟨W3, hW3⟩ : ∃ W3, W2.setCell ⟨T, k, none⟩ (.int .i64 x) = W3 := ⟨_, rfl⟩
          rw [hW3] at h3
          have h4 := h3.len HJ.out (k + 1)
          obtain ⟨W4, hW4⟩ : ∃ W4, W3.setCell ⟨tb, 0, none⟩ (.slice (some ⟨T, 0, none⟩) (k + 1) (2 * nd)) = W4 := ⟨_, rfl⟩
          rw [hW4] at h4
          have t1 := h1.t.cell 0
          have t3 := h3.t.cell 0
          have tf3 := h3.t.frozen 0
          have y4 := h4.y.cell 0
          simp at t1 t3 y4
          obtain ⟨xs, hxs, htr⟩ := h2.tr
          obtain ⟨v1, hv1⟩ := at_lt (l := xs) (k := k) (by omega)
          have s1 := row_cell htr hv1
          have sf1 := htr.frozen k
          have HS4 := Lib.hid h4
          have hcap : k ≤ 2 * nd := by omega
          simp at n2
          clear h1 h2 h3 h4 htr hv1
          go_wp2_with fail
          refine (HIH.out W4 (k + 1) (by omega) HS4.out).mono ?_
          rintro e5 W5 ⟨rfl, hs5⟩
          clear hW1 hW2 hW3 hW4 n2 t1 t3 tf3 y4 s1 sf1 c0 c1 c2 f2
          have h6 := hs5.up HJ.out (W' := W5.alloc (.cells #[.int .i64 x, .int .i64 (-1)] 3)) (by go_grown)
          have n6 := Blk.new W5 3 #[.int .i64 x, .int .i64 (-1)]
          obtain ⟨W6, hW6⟩ : ∃ W6, W5.alloc (.cells #[.int .i64 x, .int .i64 (-1)] 3) = W6 := ⟨_, rfl⟩
          rw [hW6] at h6 n6
          have m0 := n6.cell 0
          have m1 := n6.cell 1
          have h7 := h6.row HJ.out k x
          have h7' := h7.row HJ.out (k + 1) (-1)
          obtain ⟨W7, hW7⟩ : ∃ W7, (W6.setCell ⟨T, k, none⟩ (.int .i64 x)).setCell ⟨T, k + 1, none⟩ (.int .i64 (-1)) = W7 := ⟨_, rfl⟩
          rw [hW7] at h7'
          have h8 := h7'.len HJ.out (k + 2)
          obtain ⟨W8, hW8⟩ : ∃ W8, W7.setCell ⟨tb, 0, none⟩ (.slice (some ⟨T, 0, none⟩) (k + 2) (2 * nd)) = W8 := ⟨_, rfl⟩
          rw [hW8] at h8
          have t5 := hs5.t.cell 0
          have t7 := h7'.t.cell 0
          have tf7 := h7'.t.frozen 0
          have y8 := h8.y.cell 0
          simp at t5 t7 y8 m0 m1
          obtain ⟨xs, hxs, htr⟩ := h6.tr
          obtain ⟨v1, hv1⟩ := at_lt (l := xs) (k := k) (by omega)
          obtain ⟨v2, hv2⟩ := at_lt (l := xs) (k := k + 1) (by omega)
          have s1 := row_cell htr hv1
          have s2 := row_cell htr hv2
          have sf1 := htr.frozen k
          have sf2 := htr.frozen (k + 1)
          have hcap2 : k + 2 ≤ 2 * nd := by omega
          have HS8 := Lib.hid h8
          clear hs5 h6 h7 h7' h8 n6 htr hv1 hv2
          go_wp2_with fail
          refine (HIH.out W8 (k + 2) (by omega) HS8.out).mono ?_
          rintro e9 W9 ⟨rfl, hs9⟩
          clear hW6 hW7 hW8 m0 m1 t5 t7 tf7 y8 s1 s2 sf1 sf2
          have h10 := hs9.len HJ.out k
          have t9 := hs9.t.cell 0
          have tf9 := hs9.t.frozen 0
          obtain ⟨W10, hW10⟩ : ∃ W10, W9.setCell ⟨tb, 0, none⟩ (.slice (some ⟨T, 0, none⟩) k (2 * nd)) = W10 := ⟨_, rfl⟩
          rw [hW10] at h10
          have u10 := h10.u.cell 0
          obtain ⟨bs9, hbs9, hur9⟩ := h10.ur
          obtain ⟨bb9, hbb9⟩ := at_lt (l := bs9) (k := j) (by rw [hbs9]; exact hlt)
          have c9 := hur9.cell j
          have f9 := hur9.frozen j
          have H11 := Lib.hid (h10.used HJ.out j false)
          simp [hbb9] at t9 u10 c9
          clear hs9 h10 hur9 hbb9
          go_wp2_with fail
          go_roundw
          case rel => first | exact ⟨j + 1, by omega, by go_num, H11.out⟩ | ((repeat apply Exists.intro); exact ⟨⟨j + 1, by omega, by go_num, H11.out⟩, rfl⟩)
          case measure => simp [intOf]; omega
      · have e : j = nd := by omega
        subst e
        go_wp2_with fail
        refine bodyPost_end (results_none rfl _ _ _) rfl ⟨rfl, HS0.out⟩
end Go.Proofs.Ytmoakdplhfgipaa
