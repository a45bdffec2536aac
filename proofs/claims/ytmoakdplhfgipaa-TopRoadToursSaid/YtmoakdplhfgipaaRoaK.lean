/- The contract of road.Check. -/
import Derived.Test.YtmoakdplhfgipaaRoaN
namespace Go.Proofs.Ytmoakdplhfgipaa
set_option maxRecDepth 20000
open Go.RowKit Go.Maps

set_option maxRecDepth 100000 in
set_option maxHeartbeats 1600000 in
theorem road_check_any {w : World} {A : Option Addr} {nE cE : Nat} {n : Int} {E : List Edg} (h : RdT w (· < w.heap.size) 4 Edg.cs A nE E) (hn : nE ≤ maxLen) :
    Calls Try.prog 16 #[.agg #[.int .i64 n, .slice A nE cE]] w fun e w' => e = .returned (.int .i64 (roaE n E)) ∧ Below w.heap.size w w' := by
  have hlen := h.1
  unfold maxLen at hn
  have K0 := Blk.new w 24 #[.int .i64 n, .slice A nE cE]
  have HB0 : Hid (Below w.heap.size w (w.alloc (.cells #[.int .i64 n, .slice A nE cE] 24))) := Lib.hid (by go_grown)
  have q0 := K0.cell 0
  have q1 := K0.cell 1
  simp at q0 q1
  by_cases h1 : n < 1 ∨ 64 < n
  · have hE : roaE n E = 1 := if_pos h1
    rw [hE]
    clear hE h hlen
    by_cases h1' : n < 1
    · clear h1
      go_enter Try.func16, Try.ntmps16
      go_wp2
      go_ret
      exact ⟨rfl, HB0.out⟩
    · have h2 : 64 < n := by omega
      clear h1
      go_enter Try.func16, Try.ntmps16
      go_wp2
      go_ret
      exact ⟨rfl, HB0.out⟩
  have g1 : 1 ≤ n := by omega
  have g2 : n ≤ 64 := by omega
  have H1 := Lib.hid h1
  clear h1
  by_cases h512 : 512 < nE
  · have hE : roaE n E = 8 := by unfold roaE; rw [if_neg H1.out, if_pos (by rw [hlen]; exact h512)]
    rw [hE]
    clear hE h hlen
    go_enter Try.func16, Try.ntmps16
    go_wp2
    go_ret
    exact ⟨rfl, HB0.out⟩
  have H512 : Hid (¬ 512 < E.length) := Lib.hid (by rw [hlen]; exact h512)
  have n512 : nE ≤ 512 := by omega
  have HL := Lib.hid hlen
  have HM := Lib.hid h
  have HE1 : Hid (∀ k x v, firstE ((E.map (edgE · n)).take k) = 0 → E[k]? = some x → edgE x n = v → v ≠ 0 → roaE n E = v) := Lib.hid fun k p v a b c d => roa_err H1.out H512.out a b c d
  have HE2 : Hid (firstE (E.map (edgE · n)) = 0 → roaE n E = 0) := Lib.hid fun a => roa_zero H1.out H512.out a
  have HE3 : Hid (firstE (E.map (edgE · n)) = 0 → RoaOk n E) := Lib.hid fun a => roa_ok (roa_zero H1.out H512.out a)
  obtain ⟨R, hRR⟩ : ∃ R, roaE n E = R := ⟨_, rfl⟩
  rw [hRR] at HE1 HE2 ⊢
  have HK0 := Lib.hid K0
  clear h hn hlen h512 hRR K0
  go_enter Try.func16, Try.ntmps16
  go_wp2
  go_loopw [20] (fun i wr => ∃ k : Nat, k ≤ nE ∧ i = .int .i64 (k : Nat) ∧ firstE ((E.map (edgE · n)).take k) = 0 ∧ Blk wr w.heap.size 24 #[.int .i64 n, .slice A nE cE] ∧ Below w.heap.size w wr) (fun i _ => nE - (intOf i).toNat)
  case atStart => exact ⟨0, Nat.zero_le _, rfl, rfl, HK0.out, HB0.out⟩
  case round =>
    obtain ⟨k, hk, rfl, hE, hbk, hbel⟩ := hrel
    have HE := Lib.hid hE
    have HB := Lib.hid hbel
    have HK := Lib.hid hbk
    have r0 := hbk.cell 0
    have r1 := hbk.cell 1
    simp at r0 r1
    have zlt := hbk.lt
    clear hE hbel hbk
    by_cases hlt : k < nE
    · obtain ⟨x, hx⟩ := at_lt (l := E) (k := k) (by rw [HL.out]; exact hlt)
      obtain ⟨b, o, rfl, hb, hc⟩ := HM.out.2 (by omega)
      have hcx := (HM.out.cells_ hlt hx HB.out).2
      have c0 := hcx 0 _ rfl
      rw [Nat.add_zero] at c0
      have c1 := hcx 1 _ rfl
      have c2 := hcx 2 _ rfl
      have c3 := hcx 3 _ rfl
      clear hcx hc
      have HX1 := Lib.hid (firstE_take HE.out (show (E.map (edgE · n))[k]? = some (edgE x n) by simp [hx]))
      have HX := Lib.hid hx
      clear hx
      obtain ⟨f, t, m, s⟩ := x
      simp only at c0 c1 c2 c3
      by_cases h7 : edg7 ⟨f, t, m, s⟩ n
      · have H7 := Lib.hid (edgE_7 h7)
        unfold edg7 at h7
        simp only at h7
        go_wp2
        all_goals first | (exfalso; omega) | (go_ret; exact ⟨ret_int (HE1.out k _ 7 HE.out HX.out H7.out (by decide)).symm, bthen HB.out (by go_grown) HB.out.size⟩)
      have N7 := Lib.hid h7
      unfold edg7 at h7
      simp only at h7
      have n1 : 0 ≤ f := by omega
      have n2 : f < n := by omega
      have n3 : 0 ≤ t := by omega
      have n4 : t < n := by omega
      clear h7
      by_cases h1 : edg1 ⟨f, t, m, s⟩
      · have H1 := Lib.hid (edgE_1 N7.out h1)
        unfold edg1 at h1
        simp only at h1
        by_cases hft : f = t
        · subst hft
          clear h1
          go_wp2
          all_goals first | (exfalso; omega) | (go_ret; exact ⟨ret_int (HE1.out k _ 1 HE.out HX.out H1.out (by decide)).symm, bthen HB.out (by go_grown) HB.out.size⟩)
        have h1' : m < 1 ∨ 100000 < m ∨ s < 1 ∨ 100000 < s := by omega
        clear h1
        go_wp2
        all_goals first | (exfalso; omega) | (go_ret; exact ⟨ret_int (HE1.out k _ 1 HE.out HX.out H1.out (by decide)).symm, bthen HB.out (by go_grown) HB.out.size⟩)
      have H0 := Lib.hid (edgE_0 N7.out h1)
      unfold edg1 at h1
      simp only at h1
      have m0 : (f == t) = false := by simp; omega
      have m1 : 1 ≤ m := by omega
      have m2 : m ≤ 100000 := by omega
      have m3 : 1 ≤ s := by omega
      have m4 : s ≤ 100000 := by omega
      clear h1
      go_wp2
      all_goals first | (exfalso; omega) | skip
      go_roundw
      case rel => exact ⟨k + 1, by omega, by go_num, by rw [HX1.out, H0.out], HK.out.alloc _, bthen HB.out (by go_grown) HB.out.size⟩
      case measure => simp [intOf]; omega
    · have e : k = nE := by omega
      subst e
      have hE0 : firstE (E.map (edgE · n)) = 0 := by
        have := HE.out
        rwa [List.take_of_length_le (by rw [List.length_map, HL.out]; exact Nat.le_refl _)] at this
      have HE0 := Lib.hid (HE2.out hE0)
      have HRO := Lib.hid (HE3.out hE0)
      have HRA : Hid (∀ x ∈ E.map arcOf, 0 ≤ x.f ∧ x.f < n ∧ 0 ≤ x.t ∧ x.t < n) := Lib.hid (fun x hx => by obtain ⟨y, hy, rfl⟩ := List.mem_map.1 hx; have := HRO.out.edge y hy; exact ⟨this.1, this.2.1, this.2.2.1, this.2.2.2.1⟩)
      clear hE0
      go_wp2_with (first
        | (go_at_call 33; ((with_reducible refine (network_any (HM.out.up HB.out) n512).mono ?_); rintro e w1 ⟨A1, c1, rfl, hrd1, hb1⟩; have HR1 := Lib.hid hrd1; have HB1 := Lib.hid (bthen HB.out hb1 HB.out.size); clear hrd1 hb1))
        | (go_at_call 32; ((with_reducible refine (gcheck_any HR1.out n512 g1 g2 HRA.out).mono ?_); rintro e w2 ⟨rfl, hb2⟩; have HB2 := Lib.hid (bthen HB1.out hb2 HB1.out.size); clear hb2)))
      go_ret
      exact ⟨ret_int HE0.out.symm, HB2.out⟩
end Go.Proofs.Ytmoakdplhfgipaa
