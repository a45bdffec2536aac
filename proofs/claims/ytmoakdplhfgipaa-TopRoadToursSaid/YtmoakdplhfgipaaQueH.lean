/- The queue of spread in memory: New, Push. -/
import Derived.Test.YtmoakdplhfgipaaQueD
import Derived.Deep.RegionLaw
import Derived.Deep.LoopGhost
namespace Go.Proofs.Ytmoakdplhfgipaa
set_option maxRecDepth 20000
open Go.RowKit Go.Maps

/-- the queue in block q, its row any value -/
structure QS (w : World) (q : Nat) (row : Value) (n : Nat) (L : List Itm) (cnt : Int) : Prop where
  b : Blk w q 119 #[.func (.func 36) #[] #[], row, .int .i64 cnt]
  o : w.ownsRow (q + 1) 121 4 row n (flR Itm.cs L)
  l : L.length = n
theorem QI.qs {w : World} {q g n cap : Nat} {L : List Itm} {cnt : Int} (h : QI w q g n cap L cnt) : QS w q (.slice (some ⟨g, 0, none⟩) n cap) n L cnt := ⟨h.b, h.o, h.l⟩
theorem QS.qi {w : World} {q g n cap : Nat} {L : List Itm} {cnt : Int} (h : QS w q (.slice (some ⟨g, 0, none⟩) n cap) n L cnt) : QI w q g n cap L cnt := ⟨h.b, h.o, h.l⟩
theorem QS.up {w w' : World} {q n : Nat} {row : Value} {L : List Itm} {cnt : Int} (h : QS w q row n L cnt) (hb : Below w.heap.size w w') : QS w' q row n L cnt := ⟨h.b.grow hb, own_keepR h.o hb, h.l⟩
theorem nfn_nil (w : World) : (binOp .eql 95 (.func (.func 36) #[] #[]) .nilFunc).run Try.prog w = .ok (.bool false) w := by kernel_rfl
set_option maxRecDepth 100000 in
theorem new_any (w : World) : Calls Try.prog 35 #[.func (.func 36) #[] #[]] w fun e w' => e = .returned (.pointer (some ⟨w.heap.size, 0, none⟩)) ∧ QS w' w.heap.size (.slice none 0 0) 0 [] 0 ∧ Below w.heap.size w w' := by
  go_enter Try.func35, Try.ntmps35
  go_wp2
  rw [nfn_nil]
  go_wp2
  go_ret
  exact ⟨rfl, ⟨Blk.new _ _ _, World.ownsRow_nil _ _ _ _, rfl⟩, by go_grown⟩
set_option maxRecDepth 100000 in
set_option maxHeartbeats 3200000 in
theorem push_any {w : World} {q n : Nat} {row : Value} {L : List Itm} {cnt : Int} (h : QS w q row n L cnt) (hn : n + 1 ≤ 4398046511104) (xv xs xm : Int) :
    Calls Try.prog 38 #[.pointer (some ⟨q, 0, none⟩), .agg #[.int .i64 xv, .int .i64 xs, .int .i64 xm]] w fun e w' => e = .returned (.tuple #[]) ∧ ∃ g cap L' cnt', QI w' q g (n + 1) cap L' cnt' ∧ L'.Perm (L ++ [⟨xv, xs, xm, cnt⟩]) ∧ (row.ownBlock = some g ∨ w.heap.size ≤ g) ∧ Kp (fun b => b = q ∨ row.ownBlock = some b) w w' := by
  obtain ⟨i0, hi, hz0, hz1, hz2⟩ := info_parts infoQ
  obtain ⟨w0, hw0⟩ : ∃ w0, w.alloc (.cells #[.int .i64 xv, .int .i64 xs, .int .i64 xm] 93) = w0 := ⟨_, rfl⟩
  have hbn : Below w.heap.size w w0 := by rw [← hw0]; go_grown
  have k0 : Blk w0 w.heap.size 93 #[.int .i64 xv, .int .i64 xs, .int .i64 xm] := by rw [← hw0]; exact Blk.new _ _ _
  have h0 := h.up hbn
  have hqn : row.ownBlock ≠ some q := own_ne h0.o (by omega)
  have hrl : ∀ b, row.ownBlock = some b → b < w.heap.size := fun b e => (h.o.lt b e).2
  have hd : w0.drew.heap.size = w0.heap.size := rfl
  have HBN := Lib.hid hbn
  have K0 := Lib.hid k0
  have H0 := Lib.hid h0
  have HOD : Hid (w0.drew.ownsRow (q + 1) 121 4 row n (flR Itm.cs L)) := Lib.hid (own_keepR h0.o ((Below.refl _ _).drew))
  have HQN := Lib.hid hqn
  have HRL := Lib.hid hrl
  have q0 := h0.b.cell 0
  have q1 := h0.b.cell 1
  have q2 := h0.b.cell 2
  have qf1 := h0.b.frozen 1
  have b0 := k0.cell 0
  have b1 := k0.cell 1
  have b2 := k0.cell 2
  simp at q0 q1 q2 b0 b1 b2
  have zq := h.b.lt
  have z0 := k0.lt
  clear h h0 k0 hbn hqn hrl
  go_enter Try.func38, Try.ntmps38
  go_wp2_with fail
  clear hw0
  go_cut [20] (fun _ W => ∃ g cap, QS W q (.slice (some ⟨g, 0, none⟩) (n + 1) cap) (n + 1) (L ++ [⟨xv, xs, xm, cnt⟩]) cnt ∧ (row.ownBlock = some g ∨ w.heap.size ≤ g) ∧ Kp (fun b => b = q ∨ row.ownBlock = some b) w W)
  case first =>
    have qa1 : ∀ cs t, (w0.alloc (.cells cs t)).cell? ⟨q, 1, none⟩ = some row := fun cs t => by have := ((H0.out.b.alloc (.cells cs t))).cell 1; simpa using this
    go_region_law (refine step_append_lies _ rfl (.tmp 12) (.tmp 19) 117 rfl (q + 1) 121 i0 (.agg #[.int .i64 0, .int .i64 0, .int .i64 0, .int .i64 0]) 4 32 Try.underlying117 hi hz0 hz1 hz2 rfl (by decide) row n _ (by rfl) (HOD.out.alloc _) ⟨_, 0, none⟩ 1 1 [.int .i64 xv, .int .i64 xs, .int .i64 xm, .int .i64 cnt] (by rfl) rfl (World.news_of_block (heap_alloc_new _ _)) (by intro u hu; simp at hu; rcases hu with rfl | rfl | rfl | rfl <;> rfl) (by decide) (by unfold maxLen; omega) (by omega) (by simp; omega) _ rfl ?_; intro g9 cap9 w9 hown9 hg9 hat9 hlt9; have hk9 := ((H0.out.b.grow ((Below.refl _ _).drew)).alloc _).keep (hg9.block _ (by simp; omega) (fun e => HQN.out e.symm)); have r1 := hk9.cell 1; have rf := hk9.frozen 1; simp at r1; have HK9 := Lib.hid hk9; have HO9 := Lib.hid hown9; have HAT := Lib.hid hat9; have HKP := Lib.hid (Kp.trans (S := fun b => b = q ∨ row.ownBlock = some b) (Kp.of ((HBN.out.drew).alloc (by have := HBN.out.size; simpa using this) _)) ⟨hg9.os, hg9.tape, hg9.output, hg9.size, fun b hb hs => hg9.block b hb (fun e => hs (.inr e.symm))⟩); clear hk9 hown9 hg9 hat9)
    all_goals (go_wp2_with fail; go_meet)
    all_goals (refine ⟨g9, cap9, ⟨HK9.out.set_ 1 _, ?_, by rw [List.length_append, H0.out.l]; rfl⟩, ?_, HKP.out.set (.inl rfl) _⟩)
    all_goals first
      | (rw [flR_snoc]; exact own_far HO9.out _ _ (own_ne HO9.out (by show q < q + 1; omega)))
      | (rcases HAT.out with e | e
         · exact .inl e
         · right; have := HBN.out.size; simp at e; omega)
  case rest =>
    obtain ⟨g, cap, hqs, hg, hkp⟩ := hcut
    have r2 := hqs.b.cell 2
    have rf2 := hqs.b.frozen 2
    simp at r2
    have h3 : QI (wc.setCell ⟨q, 2, none⟩ (.int .i64 (IntKind.i64.wrap (cnt + 1)))) q g (n + 1) cap (L ++ [⟨xv, xs, xm, cnt⟩]) (IntKind.i64.wrap (cnt + 1)) := ⟨hqs.b.set_ 2 _, own_far hqs.o _ _ (own_ne hqs.o (by show q < q + 1; omega)), hqs.l⟩
    have HKP := Lib.hid (hkp.set (p := ⟨q, 2, none⟩) (.inl rfl) (.int .i64 (IntKind.i64.wrap (cnt + 1))))
    have HG := Lib.hid hg
    have hq3 := h3.b.cell 1
    simp at hq3
    have HM0 := Lib.hid (Moved.refl h3)
    obtain ⟨w3, hw3⟩ : ∃ w3, wc.setCell ⟨q, 2, none⟩ (.int .i64 (IntKind.i64.wrap (cnt + 1))) = w3 := ⟨_, rfl⟩
    obtain ⟨c3, hc3⟩ : ∃ c3, IntKind.i64.wrap (cnt + 1) = c3 := ⟨_, rfl⟩
    rw [hc3] at hw3 HM0 HKP hq3
    rw [hw3] at HM0 HKP hq3
    clear hqs hg hkp h3 q0 q1 q2 b0 b1 b2 qf1 hd
    go_wp2_with fail
    clear hw3 hc3 hq3 r2 rf2
    go_loopw [4] (fun i wr => ∃ a : Nat, i = .int .i64 (a : Nat) ∧ a ≤ n ∧ Moved w3 wr q g (n + 1) cap (L ++ [⟨xv, xs, xm, cnt⟩]) c3) (fun i _ => (intOf i).toNat)
    case atStart => exact ⟨n, rfl, Nat.le_refl _, HM0.out⟩
    case round =>
      obtain ⟨a, rfl, ha, hm⟩ := hrel
      have HMX := Lib.hid hm
      obtain ⟨L', hq, hp, hkp⟩ := hm
      have HQX := Lib.hid hq
      have HP := Lib.hid hp
      have HKX := Lib.hid hkp
      clear hq hp hkp
      have ha2 : a ≤ 4398046511104 := by omega
      have hdone : ∀ w2, Below wr.heap.size wr w2 → Hid (∃ g cap L' cnt', QI w2 q g (n + 1) cap L' cnt' ∧ L'.Perm (L ++ [⟨xv, xs, xm, cnt⟩]) ∧ (row.ownBlock = some g ∨ w.heap.size ≤ g) ∧ Kp (fun b => b = q ∨ row.ownBlock = some b) w w2) := fun w2 hb => Lib.hid ⟨g, cap, L', c3, HQX.out.up hb, HP.out, HG.out, Kp.out (S' := fun b => (b = q ∨ row.ownBlock = some b) ∨ b = g) ((HKP.out.mono (fun b e => .inl e)).trans ((HKX.out.then hb).mono (fun b e => .inr e))) (fun b e hb2 => by rcases e with e | e; exact e; subst e; rcases HG.out with h | h; exact .inr h; exact absurd hb2 (by omega))⟩
      have HD := Lib.hid hdone
      clear hdone
      have hlen : L'.length = n + 1 := HQX.out.l
      have HLN := Lib.hid hlen
      clear hlen
      rcases Nat.eq_zero_or_pos a with h0 | h0
      · subst h0
        go_wp2
        refine bodyPost_end (results_none rfl _ _ _) rfl ⟨rfl, (HD.out wr (Below.refl _ _)).out⟩
      · obtain ⟨b, rfl⟩ : ∃ b, a = b + 1 := ⟨a - 1, by omega⟩
        have c1 : b + 1 < n + 1 := by omega
        have c2 : b / 2 < n + 1 := by omega
        have e1 : ((b + 1 : Nat) : Int) - 1 = (b : Nat) := by omega
        have E2 : Hid (((b : Nat) : Int) + 1 = ((b + 1 : Nat) : Int)) := Lib.hid rfl
        have E3 : Hid (((b : Nat) : Int) / 2 = ((b / 2 : Nat) : Int)) := Lib.hid rfl
        go_wp2_with (first
          | (go_at_call 54; rw [E2.out, E3.out]; refine (before_any HQX.out c1 c2).mono ?_; rintro e w1 ⟨⟨bb, rfl⟩, hb1⟩
             have hq1 := HQX.out.up hb1
             have HQ1 := Lib.hid hq1
             have HB1 := Lib.hid hb1
             clear hq1 hb1)
          | (go_at_call 55; rw [E2.out, E3.out]; refine (swap_any HQ1.out c1 c2).mono ?_; rintro e w2 ⟨rfl, hq2, hk2⟩
             have HQ2 := Lib.hid hq2
             have HK2 := Lib.hid hk2
             clear hq2 hk2)
          | fail)
        all_goals first
          | exact bodyPost_ret (results_none rfl _ _ _) rfl ⟨rfl, (HD.out w1 HB1.out).out⟩
          | (go_roundw
             case rel => exact ⟨b / 2, by first | rfl | rw [E3.out], by omega, _, HQ2.out, (swp_perm (by rw [HLN.out]; exact c1) (by rw [HLN.out]; exact c2)).trans HP.out, (HKX.out.then HB1.out).trans HK2.out⟩
             case measure => simp [intOf]; omega)
end Go.Proofs.Ytmoakdplhfgipaa
