/- Tours: the contract of leg. -/
import Derived.Test.YtmoakdplhfgipaaTouA
import Derived.Deep.QuietTactic
import Derived.Deep.RegionHeld3
namespace Go.Proofs.Ytmoakdplhfgipaa
set_option maxRecDepth 20000
open Go.RowKit Go.Maps

/-- the fastest way between two nodes -/
noncomputable def wayOf (X : WPar) (a b : Int) : Lg := ato (legsOf X.N X.E a) b
theorem legs_at {N : Nat} {E : List Edg} {a : Int} {out : List Lg} (h : IsLegs N E a out) {to_ : Int} (h0 : 0 ≤ to_) (h1 : to_ < N) : out[to_.toNat]? = some (ato out to_) := by
  unfold ato
  rw [List.getElem?_eq_getElem (show to_.toNat < out.length by rw [h.len]; omega)]
  simp [List.getD, List.getElem?_eq_getElem (show to_.toNat < out.length by rw [h.len]; omega)]
set_option maxRecDepth 100000 in
set_option maxHeartbeats 3200000 in
theorem leg_any {w0 w : World} {X : WPar} {wb nm : Nat} {p : Plc} {vs : List Vis} (h : TSx w0 w X wb p vs nm) (hN : Net X.N X.E X.nE) (hnm : nm ≤ 1000) (hp0 : 0 ≤ p.n) (hp1 : p.n < X.N) {to_ : Int} (ht0 : 0 ≤ to_) (ht1 : to_ < X.N) :
    Calls Try.prog 51 #[.pointer (some ⟨wb, 0, none⟩), .int .i64 to_] w fun e w' => e = .returned (.tuple #[.agg #[.int .i64 (wayOf X p.n to_).s, .int .i64 (wayOf X p.n to_).m], .bool (decide (0 ≤ (wayOf X p.n to_).s))]) ∧ IsLegs X.N X.E p.n (legsOf X.N X.E p.n) ∧ TSx w0 w' X wb p vs (nm + 1) := by
  obtain ⟨mb, row, f, hs⟩ := h
  have hb1 : Below w.heap.size w (w.alloc (.cells #[.int .i64 0, .int .i64 0] 50)) := by go_grown
  have hs1 := hs.up hb1
  have kr := Blk.new w 50 #[.int .i64 0, .int .i64 0]
  have hmr := hs.map.lt
  obtain ⟨w1, hw1⟩ : ∃ w1, w.alloc (.cells #[.int .i64 0, .int .i64 0] 50) = w1 := ⟨_, rfl⟩
  rw [hw1] at hs1 kr hb1
  have HS1 := Lib.hid hs1
  have HB1 := Lib.hid hb1
  have KR := Lib.hid kr
  obtain ⟨N, AE, nE, cE, E, AV, nV, cV, V, AD, nD, cD, D, un, us, ⟨id, depot, from_, to2, gr, kinds⟩⟩ := X
  obtain ⟨pn, pt, pl, pm⟩ := p
  simp only at hN hp0 hp1 ht1
  have a0 := hs1.blk.cell 0
  have a4 := hs1.blk.cell 4
  have a5 := hs1.blk.cell 5
  have a16 := hs1.blk.cell 16
  simp at a0 a4 a5 a16
  have hN10 := hN.n
  have hlk : ∀ j, (Instr.lookup 65 (.map (some mb)) (.int .i64 pn) true).run Try.prog (w1.drewN j) = .ok (.tuple #[(f pn).getD (.slice none 0 0), .bool (f pn).isSome]) (w1.drewN j) := fun j => (hs1.map.below (belowN (Below.refl _ _) j)).look_ok (wf_of (by omega) (by omega))
  obtain ⟨pn, rfl⟩ : ∃ t : Nat, pn = (t : Int) := ⟨pn.toNat, by omega⟩
  have hpn : pn < N := by omega
  obtain ⟨t, rfl⟩ : ∃ t : Nat, to_ = (t : Int) := ⟨to_.toNat, by omega⟩
  have htN : t < N := by omega
  have HN := Lib.hid hN
  obtain ⟨⟨ls, lm⟩, hl⟩ : ∃ l, wayOf ⟨N, AE, nE, cE, E, AV, nV, cV, V, AD, nD, cD, D, un, us, ⟨id, depot, from_, to2, gr, kinds⟩⟩ pn (t : Int) = l := ⟨_, rfl⟩
  have hwl : ato (legsOf N E pn) (t : Int) = ⟨ls, lm⟩ := hl
  simp only
  rw [hl]
  simp only
  have HWL := Lib.hid hwl
  clear hl hwl
  cases hf : f pn with
  | some v =>
    obtain ⟨b, rfl, ho', hi, hbl⟩ := hs.legs pn v hf
    have hbr : b < w.heap.size := Blk.lt ho'
    have hne1 : b ≠ w.heap.size := by omega
    have ho : OutB w1 b (legsOf N E pn) := Blk.grow ho' hb1
    clear ho'
    have hat := legs_at hi ht0 ht1
    simp only [Int.toNat_natCast] at hat
    rw [HWL.out] at hat
    have HI := Lib.hid hi
    have HO := Lib.hid ho
    have HAT := Lib.hid hat
    rw [hf] at hlk
    simp only [Option.getD_some, Option.isSome_some] at hlk
    have HS0 := Lib.hid hs
    clear hs hs1 kr hb1 hN hf ho hi hat
    go_enter Try.func51, Try.ntmps51
    go_wp2_with fail
    clear hw1
    go_quiet (fail)
    go_wp2_with fail
    have hbq : Below w1.heap.size w1 (w1.drewN nq) := belowN (Below.refl _ _) nq
    have ho2 := Blk.grow HO.out hbq
    have kr2 := KR.out.grow hbq
    have HB2 := Lib.hid (bthen HB1.out hbq HB1.out.size)
    obtain ⟨w2, hw2⟩ : ∃ w2, w1.drewN nq = w2 := ⟨_, rfl⟩
    rw [hw2] at ho2 kr2 HB2 ⊢
    obtain ⟨g0, g1⟩ := OutB.cell ho2 HAT.out
    have r0 := kr2.cell 0
    have r1 := kr2.cell 1
    have rf0 := kr2.frozen 0
    have rf1 := kr2.frozen 1
    simp at r0 r1
    have KR2 := Lib.hid kr2
    clear hw2 hbq ho2 kr2 a0 a4 a5 a16 hlk
    simp only at g0 g1
    go_region
    all_goals (go_wp2_with fail)
    all_goals
      have K := (KR2.out.set_ 0 (.int .i64 ls)).set_ 1 (.int .i64 lm)
      have K' := K.grow ((Below.refl _ _).drew)
      have d0 := K'.cell 0
      have d1 := K'.cell 1
      simp at d0 d1
      refine bodyPost_ret (v := .tuple #[.agg #[.int .i64 ls, .int .i64 lm], .bool (decide (0 ≤ ls))]) (by simp [results, Try.results51, go_sem, d0, d1]) rfl ⟨rfl, HI.out, mb, row, f, ?_⟩
      refine (HS0.out.up ?_) |> fun h => ⟨h.blk, h.map.mono (by omega), h.own, h.legs, h.prb, h.bel, h.wlo, h.mlo⟩
    all_goals first
      | exact (below_set (below_set HB2.out (Nat.le_refl _) _) (Nat.le_refl _) _).drew
      | exact (below_set (below_set (HB2.out.drew) (Nat.le_refl _) _) (Nat.le_refl _) _)
  | none =>
    rw [hf] at hlk
    simp only [Option.getD_none, Option.isSome_none] at hlk
    have HF := Lib.hid hf
    have HS0 := Lib.hid hs
    clear hs hs1 kr hb1 hN hf
    go_enter Try.func51, Try.ntmps51
    go_wp2_with fail
    clear hw1
    go_quiet (fail)
    go_wp2_with fail
    have hbq : Below w1.heap.size w1 (w1.drewN nq) := belowN (Below.refl _ _) nq
    have hs2 := HS1.out.up hbq
    have kr2 := KR.out.grow hbq
    have hb2 := bthen HB1.out hbq HB1.out.size
    obtain ⟨w2, hw2⟩ : ∃ w2, w1.drewN nq = w2 := ⟨_, rfl⟩
    rw [hw2] at hs2 kr2 hb2 ⊢
    clear hw2 hbq a0 a4 a5 a16 hlk
    have HS2 := Lib.hid hs2
    have KR2 := Lib.hid kr2
    have HB2 := Lib.hid hb2
    have a0 := hs2.blk.cell 0
    have a4 := hs2.blk.cell 4
    have a5 := hs2.blk.cell 5
    simp at a0 a4 a5
    have HS : Hid (∀ W, Below w2.heap.size w2 W → (W.cell? ⟨wb, 0, none⟩ = some (.int .i64 (pn : Int)) ∧ W.cell? ⟨wb, 4, none⟩ = some (.int .i64 (N : Int)) ∧ W.cell? ⟨wb, 5, none⟩ = some (.slice AE nE cE))) := Lib.hid (fun W hW => by
      have k := HS2.out.blk.grow hW
      exact ⟨k.cell 0, k.cell 4, k.cell 5⟩)
    have HRD : Hid (∀ W, Below w2.heap.size w2 W → RdT W (· < W.heap.size) 4 Edg.cs AE nE E) := Lib.hid (fun W hW => HS2.out.prb.e.up (bthen HS2.out.bel hW HS2.out.bel.size))
    have hd : w2.drew.heap.size = w2.heap.size := rfl
    have HBD : Hid (Below w2.heap.size w2 w2.drew) := Lib.hid ((Below.refl _ _).drew)
    clear hs2 kr2 hb2
    go_region_held3 (fun W => W.cell? ⟨wb, 0, none⟩ = some (.int .i64 (pn : Int)) ∧ W.cell? ⟨wb, 4, none⟩ = some (.int .i64 (N : Int)) ∧ W.cell? ⟨wb, 5, none⟩ = some (.slice AE nE cE))
      (first | exact HS.out _ HBD.out | exact HS.out _ HB3.out)
      (first
        | (go_at_call 8; refine (legs_any (HRD.out _ HBD.out) HN.out hpn).mono ?_; rintro e w3 ⟨b, rfl, hbl, ho3, hi3, hb3⟩; have HB3 := Lib.hid (bthen HBD.out hb3 HBD.out.size); have HO3 := Lib.hid ho3; have HI3 := Lib.hid hi3; have HBL := Lib.hid hbl; clear ho3 hi3 hb3 hbl))
    clear a0 a4 a5
    have hs3 := HS2.out.up HB3.out
    have hs3d := hs3.up (w' := w3.drew) ((Below.refl _ _).drew)
    obtain ⟨w5, hrun, hml, hg5⟩ := hs3d.map.store (by unfold maxLen; omega) (k := (pn : Int)) (wf_of (by omega) (by omega)) (.slice (some ⟨b, 0, none⟩) N N)
    have hbr : w.heap.size < b := by
      have h1 := KR2.out.lt
      have h2 := HBL.out
      rw [show w2.drew.heap.size = w2.heap.size from rfl] at h2
      omega
    have h0w := HS0.out.bel.size
    have ho3d : OutB w3.drew b (legsOf N E (pn : Int)) := Blk.grow HO3.out ((Below.refl _ _).drew)
    have hts := hs3d.stored (k := (pn : Int)) (b := b) hml hg5 ho3d HI3.out (by omega)
    have hat := legs_at HI3.out ht0 ht1
    simp only [Int.toNat_natCast] at hat
    rw [HWL.out] at hat
    have HAT := Lib.hid hat
    have ho5 : OutB w5 b (legsOf N E (pn : Int)) := Blk.keep ho3d (hg5.block _ (Blk.lt ho3d) (fun e => by injection e with e; exact blk_map ho3d hs3d.map e))
    have kr5 := ((KR2.out.grow HB3.out).grow ((Below.refl _ _).drew)).keep (hg5.block _ (Nat.lt_of_lt_of_le KR2.out.lt (by have := HB3.out.size; exact this)) (fun e => by injection e with e; omega))
    have a0 := hs3.blk.cell 0
    have a16 := hs3.blk.cell 16
    simp at a0 a16
    have HTS := Lib.hid hts
    have HO5 := Lib.hid ho5
    have KR5 := Lib.hid kr5
    have HRW : Hid (row.ownBlock ≠ some w.heap.size) := Lib.hid (fun e => by have := (HS0.out.own.lt _ e).2; omega)
    have HLB : Hid (∀ j b n m, f j = some (.slice (some ⟨b, 0, none⟩) n m) → b ≠ w.heap.size) := Lib.hid (fun j b n m e => by
      obtain ⟨b', e', ho', _, _⟩ := HS0.out.legs j _ e
      injection e' with e1
      injection e1 with e1
      injection e1 with e1
      have := Blk.lt ho'
      omega)
    have hwr : w.heap.size ≠ wb := by have := HS0.out.blk.lt; omega
    clear hs3 hs3d hml hg5 ho3d hts hat ho5 kr5
    go_wp2_with fail
    go_region
    clear hrun a0 a16
    obtain ⟨g0, g1⟩ := OutB.cell HO5.out HAT.out
    have r0 := KR5.out.cell 0
    have r1 := KR5.out.cell 1
    have rf0 := KR5.out.frozen 0
    have rf1 := KR5.out.frozen 1
    simp at r0 r1 g0 g1
    have hne1 : b ≠ w.heap.size := by omega
    go_wp2_with fail
    go_region
    all_goals (go_wp2_with fail)
    all_goals
      have K := (KR5.out.set_ 0 (.int .i64 ls)).set_ 1 (.int .i64 lm)
      have K' := K.grow ((Below.refl _ _).drew)
      have d0 := K'.cell 0
      have d1 := K'.cell 1
      simp at d0 d1
      refine bodyPost_ret (v := .tuple #[.agg #[.int .i64 ls, .int .i64 lm], .bool (decide (0 ≤ ls))]) (by simp [results, Try.results51, go_sem, d0, d1]) rfl ⟨rfl, HI3.out, mb, row, _, HTS.out.side (rb := w.heap.size) ?_ (by omega) hwr (by omega) HRW.out ?_⟩
    all_goals first
      | exact (((Kp.refl (fun b => b = w.heap.size) _).set rfl _).set rfl _).then ((Below.refl _ _).drew)
      | exact (((Kp.refl (fun b => b = w.heap.size) _).then ((Below.refl _ _).drew)).set rfl _).set rfl _
      | (intro j b' n m e
         unfold updV at e
         by_cases ej : j = (pn : Int)
         · rw [if_pos ej] at e
           injection e with e
           injection e with e
           injection e with e
           injection e with e
           omega
         · rw [if_neg ej] at e
           exact HLB.out j b' n m e)
end Go.Proofs.Ytmoakdplhfgipaa
