/- Contracts of schedule.held, due, Due and of the reference's day, Due. -/
import Derived.Test.YtpeidgfaejnhiaaSchC
import Derived.Test.YtpeidgfaejnhiaaSchR
namespace Go.Proofs.Ytpeidgfaejnhiaa
open Go.RowKit Go.Maps

theorem heldO_nil : heldO [] = fun _ => none := rfl
theorem heldO_upd (l : List (Int × Int)) (p : Int × Int) : updI (updI (heldO l) p.1 false) p.2 true = heldO (l ++ [p]) := by
  funext d
  rw [heldO_snoc]
  unfold updI
  by_cases h : d = p.2
  · simp [h]
  · by_cases h1 : d = p.1
    · simp [h1]
    · simp [h, h1]
set_option maxRecDepth 100000 in
set_option maxHeartbeats 1600000 in
theorem held_any {w : World} (s : Sch) (h : SchIn w s) (hn : s.n ≤ 32) :
    Calls Try.prog 30 #[.agg s.vs] w fun e w' => ∃ mb, e = .returned (.map (some mb)) ∧ Mb w' mb 64 (heldO s.mv) ∧ Below w.heap.size w w' := by
  obtain ⟨hm, hmax, hok⟩ := h
  have hlen := hm.1
  have HL := Lib.hid hlen
  have HM := Lib.hid hm
  have HOK := Lib.hid hok
  have K0 : Hid (Blk (w.alloc (.cells s.vs 45)) w.heap.size 45 s.vs) := Lib.hid (Blk.new _ _ _)
  clear hlen hm hok hmax
  obtain ⟨con, st, ev, A, n, c, mv⟩ := s
  simp only at hn HL HM HOK K0 ⊢
  have hmm := @run_makeMap Try.prog
  have HMB : Hid (∀ W : World, Mb (W.alloc (.map #[] 0)) W.heap.size (2 * 0) (heldO (mv.take 0))) := Lib.hid (fun W => by rw [List.take_zero, heldO_nil]; exact Mb.made W)
  have k0 := (K0.out.alloc (.map #[] 0)).cell 3
  simp at k0
  go_enter Try.func30, Try.ntmps30
  go_wp2
  clear k0
  obtain ⟨w0, hw0, hb0⟩ : ∃ w0, w.alloc (.cells #[.int .i64 con, .int .i64 st, .int .i64 ev, .slice A n c] 45) = w0 ∧ Below w.heap.size w w0 := ⟨_, rfl, by go_grown⟩
  have hs0 : w0.heap.size = w.heap.size + 1 := by rw [← hw0]; simp
  have HM0 := Lib.hid (HMB.out w0)
  rw [hs0] at HM0
  rw [hw0] at K0 ⊢
  have HB0 := Lib.hid hb0
  clear hw0 hb0 HMB
  go_loopw [10] (fun i wr => ∃ k : Nat, k ≤ n ∧ i = .int .i64 (k : Nat) ∧ Mb wr (w.heap.size + 1) (2 * k) (heldO (mv.take k)) ∧ Below w0.heap.size w0 wr) (fun i _ => n - (intOf i).toNat)
  case atStart => exact ⟨0, Nat.zero_le _, rfl, HM0.out, by go_grown⟩
  case round =>
    obtain ⟨k, hk, rfl, hmb, hbel⟩ := hrel
    have MBK := Lib.hid hmb
    have HBL := Lib.hid hbel
    have HBW2 := Lib.hid (bthen HB0.out hbel (by omega))
    clear hmb hbel
    by_cases hlt2 : k < n
    · obtain ⟨p, hp⟩ := at_lt (l := mv) (k := k) (by rw [HL.out]; exact hlt2)
      obtain ⟨fr, to_⟩ := p
      obtain ⟨b, o, rfl, hb, hc⟩ := HM.out.2 (by omega)
      have hcx := (HM.out.cells_ hlt2 hp HBW2.out).2
      have c0 := hcx 0 _ rfl
      rw [Nat.add_zero] at c0
      have c1 := hcx 1 _ rfl
      obtain ⟨ok1, ok2⟩ := HOK.out _ (List.mem_of_getElem? hp)
      have HT : Hid (mv.take (k + 1) = mv.take k ++ [(fr, to_)]) := Lib.hid (by rw [List.take_add_one, hp]; rfl)
      have HP := Lib.hid hp
      have W1 := Lib.hid (i64_wf ok1)
      have W2 := Lib.hid (i64_wf ok2)
      clear hcx hc hp ok1 ok2
      have f1 := (MBK.out.alloc (.cells #[.int .i64 fr, .int .i64 to_] 80)).drew
      have kx := Blk.new wr 80 #[.int .i64 fr, .int .i64 to_]
      have hx : w.heap.size + 1 < wr.heap.size := MBK.out.lt
      obtain ⟨wa, ra, ma, ga⟩ := f1.store (by unfold maxLen; omega) W1.out false
      obtain ⟨wb, rb, mb, gb⟩ := ma.store (by unfold maxLen; omega) W2.out true
      have hsz : (wr.alloc (.cells #[.int .i64 fr, .int .i64 to_] 80)).drew.heap.size = wr.heap.size + 1 := by simp [World.drew]
      have ta := ga.size
      have B0 : Below w0.heap.size w0 (wr.alloc (.cells #[.int .i64 fr, .int .i64 to_] 80)).drew := (HBL.out.alloc HBL.out.size _).drew
      have BB : Hid (Below w0.heap.size w0 wb) := Lib.hid ((B0.grown ga B0.size (fun i e => by cases e; omega)).grown gb (by omega) (fun i e => by cases e; omega))
      have FB : Hid (Mb wb (w.heap.size + 1) (2 * (k + 1)) (heldO (mv.take (k + 1)))) := Lib.hid (by rw [HT.out, ← heldO_upd]; exact mb)
      have SA : Hid (∀ W : World, W.heap[wr.heap.size]? = (wr.alloc (.cells #[.int .i64 fr, .int .i64 to_] 80)).heap[wr.heap.size]? → W.cell? ⟨wr.heap.size, 0, none⟩ = some (.int .i64 fr) ∧ W.cell? ⟨wr.heap.size, 1, none⟩ = some (.int .i64 to_)) := Lib.hid fun W hW => ⟨(Blk.keep kx hW).cell 0, (Blk.keep kx hW).cell 1⟩
      have S0 := Lib.hid (SA.out (wr.alloc (.cells #[.int .i64 fr, .int .i64 to_] 80)).drew rfl)
      have S1 := Lib.hid (SA.out wa (ga.block _ (by omega) (by simp; omega)))
      have S2 := Lib.hid (SA.out wb ((gb.block _ (by omega) (by simp; omega)).trans (ga.block _ (by omega) (by simp; omega))))
      clear f1 kx ma mb ga gb hsz ta B0
      go_wp2_with fail
      go_region_held3 (fun W => W.cell? ⟨wr.heap.size, 0, none⟩ = some (.int .i64 fr) ∧ W.cell? ⟨wr.heap.size, 1, none⟩ = some (.int .i64 to_)) (first | exact S0.out | exact S1.out | exact S2.out) (fail)
      go_wp2
      go_roundw
      case rel => exact ⟨k + 1, by omega, by go_num, FB.out, BB.out⟩
      case measure => simp [intOf]; omega
    · have e : k = n := by omega
      subst e
      have HT : Hid (mv.take k = mv) := Lib.hid (List.take_of_length_le (by rw [HL.out]; exact Nat.le_refl _))
      go_wp2
      go_ret
      exact ⟨_, rfl, by have := MBK.out; rw [HT.out] at this; exact this.mono (by omega), HBW2.out⟩

set_option maxHeartbeats 800000 in
theorem due_any {w : World} (s : Sch) (h : SchIn w s) (hst : stevP s.start s.every) {mb : Nat} {f : Int → Option Bool} {m : Nat} (hmb : Mb w mb m f) (d : Int) (hd : i64ok d) :
    Calls Try.prog 29 #[.agg s.vs, .map (some mb), .int .i64 d] w fun e w' => e = .returned (.bool ((f d).getD (patB s.start s.every d))) ∧ Below w.heap.size w w' := by
  obtain ⟨con, st, ev, A, n, c, mv⟩ := s
  have HST := Lib.hid hst
  clear h hst
  have hl := (hmb.alloc (.cells #[.int .i64 con, .int .i64 st, .int .i64 ev, .slice A n c] 45)).look_ok (i64_wf hd)
  clear hmb
  simp only at HST ⊢
  cases hf : f d with
  | none =>
    rw [hf] at hl
    simp only [Option.getD, Option.isSome] at hl
    have HF := Lib.hid hf
    clear hf
    go_enter Try.func29, Try.ntmps29
    go_wp2_with (go_at_call 42; ((with_reducible refine (pat_val rfl HST.out _ _ _ _ _).mono ?_); rintro e w' ⟨rfl, rfl⟩))
    go_ret
    exact ⟨rfl, by go_grown⟩
  | some b =>
    rw [hf] at hl
    simp only [Option.getD, Option.isSome] at hl
    have HF := Lib.hid hf
    clear hf
    go_enter Try.func29, Try.ntmps29
    go_wp2
    go_ret
    exact ⟨rfl, by go_grown⟩

set_option maxRecDepth 100000 in
set_option maxHeartbeats 1600000 in
theorem rday17_any {w : World} (s : Sch) (h : SchIn w s) (hst : stevP s.start s.every) (d : Int) :
    Calls Try.prog 52 #[.agg s.vs, .int .i64 d] w fun e w' => e = .returned (.bool (dueB s d)) ∧ Below w.heap.size w w' := by
  obtain ⟨hm, hmax, hok⟩ := h
  have hlen := hm.1
  unfold maxLen at hmax
  have HL := Lib.hid hlen
  have HM := Lib.hid hm
  have HST := Lib.hid hst
  have K0 : Hid (Blk (w.alloc (.cells s.vs 45)) w.heap.size 45 s.vs) := Lib.hid (Blk.new _ _ _)
  have HDU : Hid (dueB s d = (heldO s.mv d).getD (patB s.start s.every d)) := Lib.hid rfl
  obtain ⟨D, hD⟩ : ∃ D, dueB s d = D := ⟨_, rfl⟩
  rw [hD] at HDU ⊢
  clear hlen hm hok hst hD
  obtain ⟨con, st, ev, A, n, c, mv⟩ := s
  simp only at hmax HL HM K0 HST HDU ⊢
  go_enter Try.func52, Try.ntmps52
  go_wp2_with (go_at_call 59; ((with_reducible refine (rpat_val rfl HST.out _ _ _ _ _).mono ?_); rintro e w' ⟨rfl, rfl⟩))
  obtain ⟨w0, hw0, hb0⟩ : ∃ w0, w.alloc (.cells #[.int .i64 con, .int .i64 st, .int .i64 ev, .slice A n c] 45) = w0 ∧ Below w.heap.size w w0 := ⟨_, rfl, by go_grown⟩
  have hs0 : w0.heap.size = w.heap.size + 1 := by rw [← hw0]; simp
  rw [hw0] at K0 ⊢
  have HB0 := Lib.hid hb0
  clear hw0 hb0
  go_loopw [5, 6] (fun a i wr => ∃ k : Nat, k ≤ n ∧ i = .int .i64 (k : Nat) ∧ a = .bool ((heldO (mv.take k) d).getD (patB st ev d)) ∧ Below w0.heap.size w0 wr) (fun _ i _ => n - (intOf i).toNat)
  case atStart => exact ⟨0, Nat.zero_le _, rfl, rfl, by go_grown⟩
  case round =>
    obtain ⟨k, hk, rfl, rfl, hbel⟩ := hrel
    have HBL := Lib.hid hbel
    have HBW2 := Lib.hid (bthen HB0.out hbel (by omega))
    have ky := K0.out.grow hbel
    have y3 := ky.cell 3
    have hzy := ky.lt
    simp at y3
    clear hbel ky
    by_cases hlt2 : k < n
    · obtain ⟨p, hp⟩ := at_lt (l := mv) (k := k) (by rw [HL.out]; exact hlt2)
      obtain ⟨fr, to_⟩ := p
      obtain ⟨b, o, rfl, hb, hc⟩ := HM.out.2 (by omega)
      have hcx := (HM.out.cells_ hlt2 hp HBW2.out).2
      have c0 := hcx 0 _ rfl
      rw [Nat.add_zero] at c0
      have c1 := hcx 1 _ rfl
      have HT : Hid (heldO (mv.take (k + 1)) d = if d = to_ then some true else if d = fr then some false else heldO (mv.take k) d) := Lib.hid (by rw [List.take_add_one, hp]; exact heldO_snoc _ (fr, to_) d)
      clear hcx hc hp
      by_cases e1 : d = fr <;> by_cases e2 : d = to_
      · subst e1
        subst e2
        go_wp2
        go_roundw
        case rel => exact ⟨k + 1, by omega, by go_num, by rw [HT.out]; simp, HBL.out⟩
        case measure => simp [intOf]; omega
      · subst e1
        have f2 : (to_ == d) = false := by simpa using fun h => e2 h.symm
        have E2 := Lib.hid e2
        clear e2
        go_wp2
        go_roundw
        case rel => exact ⟨k + 1, by omega, by go_num, by rw [HT.out]; simp [E2.out], HBL.out⟩
        case measure => simp [intOf]; omega
      · subst e2
        have f1 : (fr == d) = false := by simpa using fun h => e1 h.symm
        have E1 := Lib.hid e1
        clear e1
        go_wp2
        go_roundw
        case rel => exact ⟨k + 1, by omega, by go_num, by rw [HT.out]; simp, HBL.out⟩
        case measure => simp [intOf]; omega
      · have f1 : (fr == d) = false := by simpa using fun h => e1 h.symm
        have f2 : (to_ == d) = false := by simpa using fun h => e2 h.symm
        have E1 := Lib.hid e1
        have E2 := Lib.hid e2
        clear e1 e2
        go_wp2
        go_roundw
        case rel => exact ⟨k + 1, by omega, by go_num, by rw [HT.out]; simp [E1.out, E2.out], HBL.out⟩
        case measure => simp [intOf]; omega
    · have e : k = n := by omega
      subst e
      have HT : Hid ((heldO (mv.take k) d).getD (patB st ev d) = D) := Lib.hid (by rw [HDU.out, List.take_of_length_le (by rw [HL.out]; exact Nat.le_refl _)])
      go_wp2
      go_ret
      exact ⟨ret_bool HT.out, HBW2.out⟩
end Go.Proofs.Ytpeidgfaejnhiaa
