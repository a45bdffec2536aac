/- Road networks: what road.Check computes in plain Lean, and the contracts of R19.Check, network, graph.Check, road.Check. -/
import Derived.Test.YtmoakdplhfgipaaDem2
namespace Go.Proofs.Ytmoakdplhfgipaa
set_option maxRecDepth 20000
open Go.RowKit Go.Maps

structure Edg where
  f : Int
  t : Int
  m : Int
  s : Int
def Edg.cs (x : Edg) : List Value := [.int .i64 x.f, .int .i64 x.t, .int .i64 x.m, .int .i64 x.s]
abbrev Edg.vs (x : Edg) : Array Value := #[.int .i64 x.f, .int .i64 x.t, .int .i64 x.m, .int .i64 x.s]
def edg7 (x : Edg) (n : Int) : Prop := x.f < 0 ∨ n ≤ x.f ∨ x.t < 0 ∨ n ≤ x.t
def edg1 (x : Edg) : Prop := x.f = x.t ∨ x.m < 1 ∨ 100000 < x.m ∨ x.s < 1 ∨ 100000 < x.s
instance (x : Edg) (n : Int) : Decidable (edg7 x n) := by unfold edg7; infer_instance
instance (x : Edg) : Decidable (edg1 x) := by unfold edg1; infer_instance
/-- the error of an edge -/
def edgE (x : Edg) (n : Int) : Int := if edg7 x n then 7 else if edg1 x then 1 else 0
/-- the error of a network -/
def roaE (n : Int) (E : List Edg) : Int := if n < 1 ∨ 64 < n then 1 else if 512 < E.length then 8 else firstE (E.map (edgE · n))
theorem edgE_7 {x : Edg} {n : Int} (h : edg7 x n) : edgE x n = 7 := if_pos h
theorem edgE_1 {x : Edg} {n : Int} (h : ¬ edg7 x n) (h1 : edg1 x) : edgE x n = 1 := (if_neg h).trans (if_pos h1)
theorem edgE_0 {x : Edg} {n : Int} (h : ¬ edg7 x n) (h1 : ¬ edg1 x) : edgE x n = 0 := (if_neg h).trans (if_neg h1)
/-- a network that is valid -/
structure RoaOk (n : Int) (E : List Edg) : Prop where
  lo : 1 ≤ n
  hi : n ≤ 64
  len : E.length ≤ 512
  edge : ∀ x ∈ E, 0 ≤ x.f ∧ x.f < n ∧ 0 ≤ x.t ∧ x.t < n ∧ x.f ≠ x.t ∧ 1 ≤ x.m ∧ x.m ≤ 100000 ∧ 1 ≤ x.s ∧ x.s ≤ 100000
theorem roa_ok {n : Int} {E : List Edg} (h : roaE n E = 0) : RoaOk n E := by
  unfold roaE at h
  split at h
  · omega
  · rename_i h1
    split at h
    · omega
    · rename_i h2
      refine ⟨by omega, by omega, by omega, fun x hx => ?_⟩
      have h5 := firstE_zero_iff.1 h _ (List.mem_map.2 ⟨x, hx, rfl⟩)
      have h3 : ¬ edg7 x n := fun h3 => by rw [edgE_7 h3] at h5; omega
      have h4 : ¬ edg1 x := fun h4 => by rw [edgE_1 h3 h4] at h5; omega
      unfold edg7 at h3
      unfold edg1 at h4
      omega
theorem roa_err {n : Int} {E : List Edg} {k : Nat} {x : Edg} {v : Int} (h1 : ¬ (n < 1 ∨ 64 < n)) (h2 : ¬ 512 < E.length) (hE : firstE ((E.map (edgE · n)).take k) = 0) (hx : E[k]? = some x) (he : edgE x n = v) (hv : v ≠ 0) : roaE n E = v := by
  have a1 := firstE_take hE (show (E.map (edgE · n))[k]? = some (edgE x n) by simp [hx])
  have a2 := firstE_stop (l := E.map (edgE · n)) (k := k + 1) (by rw [a1, he]; exact hv)
  unfold roaE
  rw [if_neg h1, if_neg h2, a2, a1, he]
theorem roa_zero {n : Int} {E : List Edg} (h1 : ¬ (n < 1 ∨ 64 < n)) (h2 : ¬ 512 < E.length) (hE : firstE (E.map (edgE · n)) = 0) : roaE n E = 0 := by
  unfold roaE
  rw [if_neg h1, if_neg h2, hE]

structure Arc2 where
  f : Int
  t : Int
def Arc2.cs (x : Arc2) : List Value := [.int .i64 x.f, .int .i64 x.t]

set_option maxRecDepth 100000 in
set_option maxHeartbeats 1600000 in
theorem r19_any {w : World} {A : Option Addr} {nE cE : Nat} {n : Int} {E : List Edg} (h : RdT w (· < w.heap.size) 4 Edg.cs A nE E) (hn : nE ≤ maxLen) :
    Calls Try.prog 9 #[.agg #[.int .i64 n, .slice A nE cE]] w fun e w' => e = .returned (.int .i64 (roaE n E)) ∧ Below w.heap.size w w' := by
  have hlen := h.1
  unfold maxLen at hn
  have K0 := Blk.new w 24 #[.int .i64 n, .slice A nE cE]
  have HB0 : Hid (Below w.heap.size w (w.alloc (.cells #[.int .i64 n, .slice A nE cE] 24))) := Lib.hid (by go_grown)
  have q0 := K0.cell 0
  have q1 := K0.cell 1
  simp at q0 q1
  by_cases h1 : n < 1 ∨ 64 < n
  · have hE : roaE n E = 1 := if_pos h1
    rw [hE]
    clear hE h hlen
    by_cases h1' : n < 1
    · clear h1
      go_enter Try.func9, Try.ntmps9
      go_wp2
      go_ret
      exact ⟨rfl, HB0.out⟩
    · have h2 : 64 < n := by omega
      clear h1
      go_enter Try.func9, Try.ntmps9
      go_wp2
      go_ret
      exact ⟨rfl, HB0.out⟩
  have g1 : 1 ≤ n := by omega
  have g2 : n ≤ 64 := by omega
  have H1 := Lib.hid h1
  clear h1
  by_cases h512 : 512 < nE
  · have hE : roaE n E = 8 := by unfold roaE; rw [if_neg H1.out, if_pos (by rw [hlen]; exact h512)]
    rw [hE]
    clear hE h hlen
    go_enter Try.func9, Try.ntmps9
    go_wp2
    go_ret
    exact ⟨rfl, HB0.out⟩
  have H512 : Hid (¬ 512 < E.length) := Lib.hid (by rw [hlen]; exact h512)
  have n512 : nE ≤ 512 := by omega
  have HL := Lib.hid hlen
  have HM := Lib.hid h
  have HE1 : Hid (∀ k x v, firstE ((E.map (edgE · n)).take k) = 0 → E[k]? = some x → edgE x n = v → v ≠ 0 → roaE n E = v) := Lib.hid fun k p v a b c d => roa_err H1.out H512.out a b c d
  have HE2 : Hid (firstE (E.map (edgE · n)) = 0 → roaE n E = 0) := Lib.hid fun a => roa_zero H1.out H512.out a
  obtain ⟨R, hRR⟩ : ∃ R, roaE n E = R := ⟨_, rfl⟩
  rw [hRR] at HE1 HE2 ⊢
  have HK0 := Lib.hid K0
  clear h hn hlen h512 hRR K0
  go_enter Try.func9, Try.ntmps9
  go_wp2
  go_loopw [20] (fun i wr => ∃ k : Nat, k ≤ nE ∧ i = .int .i64 (k : Nat) ∧ firstE ((E.map (edgE · n)).take k) = 0 ∧ Blk wr w.heap.size 24 #[.int .i64 n, .slice A nE cE] ∧ Below w.heap.size w wr) (fun i _ => nE - (intOf i).toNat)
  case atStart => exact ⟨0, Nat.zero_le _, rfl, rfl, HK0.out, HB0.out⟩
  case round =>
    obtain ⟨k, hk, rfl, hE, hbk, hbel⟩ := hrel
    have HE := Lib.hid hE
    have HB := Lib.hid hbel
    have HK := Lib.hid hbk
    have r0 := hbk.cell 0
    have r1 := hbk.cell 1
    simp at r0 r1
    have zlt := hbk.lt
    clear hE hbel hbk
    by_cases hlt : k < nE
    · obtain ⟨x, hx⟩ := at_lt (l := E) (k := k) (by rw [HL.out]; exact hlt)
      obtain ⟨b, o, rfl, hb, hc⟩ := HM.out.2 (by omega)
      have hcx := (HM.out.cells_ hlt hx HB.out).2
      have c0 := hcx 0 _ rfl
      rw [Nat.add_zero] at c0
      have c1 := hcx 1 _ rfl
      have c2 := hcx 2 _ rfl
      have c3 := hcx 3 _ rfl
      clear hcx hc
      have HX1 := Lib.hid (firstE_take HE.out (show (E.map (edgE · n))[k]? = some (edgE x n) by simp [hx]))
      have HX := Lib.hid hx
      clear hx
      obtain ⟨f, t, m, s⟩ := x
      simp only at c0 c1 c2 c3
      by_cases h7 : edg7 ⟨f, t, m, s⟩ n
      · have H7 := Lib.hid (edgE_7 h7)
        unfold edg7 at h7
        simp only at h7
        go_wp2
        all_goals first | (exfalso; omega) | (go_ret; exact ⟨ret_int (HE1.out k _ 7 HE.out HX.out H7.out (by decide)).symm, bthen HB.out (by go_grown) HB.out.size⟩)
      have N7 := Lib.hid h7
      unfold edg7 at h7
      simp only at h7
      have n1 : 0 ≤ f := by omega
      have n2 : f < n := by omega
      have n3 : 0 ≤ t := by omega
      have n4 : t < n := by omega
      clear h7
      by_cases h1 : edg1 ⟨f, t, m, s⟩
      · have H1 := Lib.hid (edgE_1 N7.out h1)
        unfold edg1 at h1
        simp only at h1
        by_cases hft : f = t
        · subst hft
          clear h1
          go_wp2
          all_goals first | (exfalso; omega) | (go_ret; exact ⟨ret_int (HE1.out k _ 1 HE.out HX.out H1.out (by decide)).symm, bthen HB.out (by go_grown) HB.out.size⟩)
        have h1' : m < 1 ∨ 100000 < m ∨ s < 1 ∨ 100000 < s := by omega
        clear h1
        go_wp2
        all_goals first | (exfalso; omega) | (go_ret; exact ⟨ret_int (HE1.out k _ 1 HE.out HX.out H1.out (by decide)).symm, bthen HB.out (by go_grown) HB.out.size⟩)
      have H0 := Lib.hid (edgE_0 N7.out h1)
      unfold edg1 at h1
      simp only at h1
      have m0 : (f == t) = false := by simp; omega
      have m1 : 1 ≤ m := by omega
      have m2 : m ≤ 100000 := by omega
      have m3 : 1 ≤ s := by omega
      have m4 : s ≤ 100000 := by omega
      clear h1
      go_wp2
      all_goals first | (exfalso; omega) | skip
      go_roundw
      case rel => exact ⟨k + 1, by omega, by go_num, by rw [HX1.out, H0.out], HK.out.alloc _, bthen HB.out (by go_grown) HB.out.size⟩
      case measure => simp [intOf]; omega
    · have e : k = nE := by omega
      subst e
      have hE0 : firstE (E.map (edgE · n)) = 0 := by
        have := HE.out
        rwa [List.take_of_length_le (by rw [List.length_map, HL.out]; exact Nat.le_refl _)] at this
      have HE0 := Lib.hid (HE2.out hE0)
      clear hE0
      go_wp2
      go_ret
      exact ⟨ret_int HE0.out.symm, HB.out⟩
end Go.Proofs.Ytmoakdplhfgipaa
