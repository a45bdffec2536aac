/- Contracts of demand.within, task.index, task.schedules and of the reference's schedules. -/
import Derived.Test.YtpeidgfaejnhiaaSchE
import Derived.Test.YtpeidgfaejnhiaaDemI
namespace Go.Proofs.Ytpeidgfaejnhiaa
open Go.RowKit Go.Maps

def witB (n lo hi : Int) : Bool := decide (lo ≤ n) && decide (n ≤ hi)
theorem witB_true {n lo hi : Int} (h : lo ≤ n ∧ n ≤ hi) : witB n lo hi = true := by simp [witB, h]
theorem witB_false {n lo hi : Int} (h : ¬ (lo ≤ n ∧ n ≤ hi)) : witB n lo hi = false := by
  cases e : witB n lo hi
  · rfl
  · simp [witB] at e; exact absurd e h
theorem witB_iff {n lo hi : Int} : witB n lo hi = true ↔ lo ≤ n ∧ n ≤ hi := by simp [witB]
set_option maxHeartbeats 400000 in
theorem within_any (n lo hi : Int) (w : World) : Calls Try.prog 32 #[.int .i64 n, .int .i64 lo, .int .i64 hi] w fun e w' => e = .returned (.bool (witB n lo hi)) ∧ w = w' := by
  by_cases h1 : lo ≤ n <;> by_cases h2 : n ≤ hi
  all_goals
    go_enter Try.func32, Try.ntmps32
    go_wp2
    go_ret
    exact ⟨ret_bool (by first | exact (witB_true ⟨by omega, by omega⟩).symm | exact (witB_false (by omega)).symm), rfl⟩
theorem within_val {b : Bool} {n lo hi : Int} (h : witB n lo hi = b) (w : World) : Calls Try.prog 32 #[.int .i64 n, .int .i64 lo, .int .i64 hi] w fun e w' => e = .returned (.bool b) ∧ w = w' := by rw [← h]; exact within_any n lo hi w

def inB (n : Nat) (i : Int) : Bool := decide (0 ≤ i ∧ i < (n : Int))
theorem inB_iff {n : Nat} {i : Int} : inB n i = true ↔ 0 ≤ i ∧ i < (n : Int) := decide_eq_true_iff
theorem inB_not {n : Nat} {i : Int} : inB n i = false ↔ ¬ (0 ≤ i ∧ i < (n : Int)) := decide_eq_false_iff_not
set_option maxHeartbeats 400000 in
theorem tidx_any (T : Tri) (day level i : Int) (w : World) :
    Calls Try.prog 35 #[.agg (T.ts day level), .int .i64 i] w fun e w' => e = .returned (.bool (inB T.nC i)) ∧ w' = w.alloc (.cells (T.ts day level) 69) := by
  obtain ⟨AC, nC, cC, C, AS, nS, cS, S, AF, nF, cF, F⟩ := T
  simp only
  by_cases h1 : 0 ≤ i <;> by_cases h2 : i < (nC : Int)
  all_goals
    go_enter Try.func35, Try.ntmps35
    go_wp2
    go_ret
    exact ⟨ret_bool (by first | exact (inB_iff.2 ⟨by omega, by omega⟩).symm | exact (inB_not.2 (by omega)).symm), rfl⟩
theorem tidx_val {b : Bool} {i : Int} {nC : Nat} (h : inB nC i = b) (AC : Option Addr) (cC : Nat) (AS : Option Addr) (nS cS : Nat) (AF : Option Addr) (nF cF : Nat) (day level : Int) (w : World) :
    Calls Try.prog 35 #[.agg #[.slice AC nC cC, .slice AS nS cS, .slice AF nF cF, .int .i64 day, .int .i64 level], .int .i64 i] w fun e w' => e = .returned (.bool b) ∧ w' = w.alloc (.cells #[.slice AC nC cC, .slice AS nS cS, .slice AF nF cF, .int .i64 day, .int .i64 level] 69) := by
  rw [← h]; exact tidx_any ⟨AC, nC, cC, [], AS, nS, cS, [], AF, nF, cF, []⟩ day level i w

theorem schs_err {n : Int} {S : List Sch} {k : Nat} {x : Sch} {v : Int} (h : ¬ 256 < S.length) (hE : firstE ((S.map (schA n)).take k) = 0) (hx : S[k]? = some x) (he : schA n x = v) (hv : v ≠ 0) : schsE n S = v := by
  have h1 := firstE_take hE (show (S.map (schA n))[k]? = some (schA n x) by simp [hx])
  have h2 := firstE_stop (l := S.map (schA n)) (k := k + 1) (by rw [h1, he]; exact hv)
  unfold schsE
  rw [if_neg h, h2, h1, he]
theorem schs_zero {n : Int} {S : List Sch} (h : ¬ 256 < S.length) (hE : firstE (S.map (schA n)) = 0) : schsE n S = 0 := by unfold schsE; rw [if_neg h, hE]
theorem schA_out {n : Nat} {x : Sch} (h : inB n x.con = false) : schA n x = 7 := by unfold schA; rw [if_pos (by have := inB_not.1 h; omega)]
theorem schA_in {n : Nat} {x : Sch} (h : inB n x.con = true) : schA n x = schE x := by unfold schA; rw [if_neg (by have := inB_iff.1 h; omega)]

set_option maxRecDepth 100000 in
set_option maxHeartbeats 1600000 in
theorem tschs_any {w : World} {T : Tri} (h : T.In w) (day level : Int) :
    Calls Try.prog 44 #[.agg (T.ts day level)] w fun e w' => e = .returned (.int .i64 (schsE T.nC T.S)) ∧ Below w.heap.size w w' := by
  have hs := h.s
  have hn := h.sn
  have hok := h.sok
  have hlen := hs.1
  unfold maxLen at hn
  have K0 : Hid (Blk (w.alloc (.cells (T.ts day level) 69)) w.heap.size 69 (T.ts day level)) := Lib.hid (Blk.new _ _ _)
  clear h
  by_cases h256 : 256 < T.nS
  · have hE : schsE T.nC T.S = 8 := if_pos (by rw [hlen]; exact h256)
    rw [hE]
    clear hE hs hn hok hlen K0
    obtain ⟨AC, nC, cC, C, AS, nS, cS, S, AF, nF, cF, F⟩ := T
    simp only at h256 ⊢
    go_enter Try.func44, Try.ntmps44
    go_wp2
    go_ret
    exact ⟨rfl, by go_grown⟩
  have H256 : Hid (¬ 256 < T.S.length) := Lib.hid (by rw [hlen]; exact h256)
  have n256 : T.nS ≤ 256 := by omega
  have HL := Lib.hid hlen
  have HM := Lib.hid hs
  have HOK := Lib.hid hok
  have HE1 : Hid (∀ k x v, firstE ((T.S.map (schA T.nC)).take k) = 0 → T.S[k]? = some x → schA T.nC x = v → v ≠ 0 → schsE T.nC T.S = v) := Lib.hid fun k p v a b c d => schs_err H256.out a b c d
  have HE2 : Hid (firstE (T.S.map (schA T.nC)) = 0 → schsE T.nC T.S = 0) := Lib.hid fun a => schs_zero H256.out a
  obtain ⟨E, hEE⟩ : ∃ E, schsE T.nC T.S = E := ⟨_, rfl⟩
  rw [hEE] at HE1 HE2 ⊢
  clear hs hn hok hlen h256 H256 hEE
  obtain ⟨AC, nC, cC, C, AS, nS, cS, S, AF, nF, cF, F⟩ := T
  simp only at n256 HL HM HOK K0 HE1 HE2 ⊢
  go_enter Try.func44, Try.ntmps44
  go_wp2
  obtain ⟨w0, hw0, hb0⟩ : ∃ w0, w.alloc (.cells #[.slice AC nC cC, .slice AS nS cS, .slice AF nF cF, .int .i64 day, .int .i64 level] 69) = w0 ∧ Below w.heap.size w w0 := ⟨_, rfl, by go_grown⟩
  have hs0 : w0.heap.size = w.heap.size + 1 := by rw [← hw0]; simp
  rw [hw0] at K0 ⊢
  have HB0 := Lib.hid hb0
  clear hw0 hb0
  go_loopw [13] (fun i wr => ∃ k : Nat, k ≤ nS ∧ i = .int .i64 (k : Nat) ∧ firstE ((S.map (schA nC)).take k) = 0 ∧ Below w0.heap.size w0 wr) (fun i _ => nS - (intOf i).toNat)
  case atStart => exact ⟨0, Nat.zero_le _, rfl, rfl, Below.refl _ _⟩
  case round =>
    obtain ⟨k, hk, rfl, hE, hbel⟩ := hrel
    have HE := Lib.hid hE
    have HB := Lib.hid hbel
    have HBW := Lib.hid (bthen HB0.out hbel (by omega))
    have kr := K0.out.grow hbel
    have q0 := kr.cell 0
    have q1 := kr.cell 1
    have q2 := kr.cell 2
    have q3 := kr.cell 3
    have q4 := kr.cell 4
    have hzr := kr.lt
    simp at q0 q1 q2 q3 q4
    clear hE hbel kr
    by_cases hlt : k < nS
    · obtain ⟨x, hx⟩ := at_lt (l := S) (k := k) (by rw [HL.out]; exact hlt)
      obtain ⟨b, o, rfl, hb, hc⟩ := HM.out.2 (by omega)
      have hcx := (HM.out.cells_ hlt hx HBW.out).2
      have c0 := hcx 0 _ rfl
      rw [Nat.add_zero] at c0
      have c1 := hcx 1 _ rfl
      have c2 := hcx 2 _ rfl
      have c3 := hcx 3 _ rfl
      clear hcx hc
      have HIN := Lib.hid (HOK.out x (List.mem_of_getElem? hx))
      have HX1 := Lib.hid (firstE_take HE.out (show (S.map (schA nC))[k]? = some (schA nC x) by simp [hx]))
      have HX := Lib.hid hx
      clear hx
      cases hi : inB nC x.con
      · have HI := Lib.hid hi
        clear hi
        go_wp2_with (go_at_call 35; ((with_reducible refine (tidx_val HI.out _ _ _ _ _ _ _ _ _ _ _).mono ?_); rintro e w' ⟨rfl, rfl⟩))
        go_ret
        exact ⟨ret_int (HE1.out k x 7 HE.out HX.out (schA_out HI.out) (by decide)).symm, bthen HBW.out (by go_grown) HBW.out.size⟩
      have HI := Lib.hid hi
      clear hi
      have HBX : Hid (Below w.heap.size w ((wr.alloc (.cells x.vs 45)).alloc (.cells #[.slice AC nC cC, .slice (some ⟨b, o, none⟩) nS cS, .slice AF nF cF, .int .i64 day, .int .i64 level] 69))) := Lib.hid (bthen HBW.out (by go_grown) HBW.out.size)
      by_cases he : schE x = 0
      · have HC := Lib.hid he
        clear he
        go_wp2_with (first
          | (go_at_call 35; ((with_reducible refine (tidx_val HI.out _ _ _ _ _ _ _ _ _ _ _).mono ?_); rintro e w' ⟨rfl, rfl⟩))
          | (go_at_call 28; ((with_reducible refine (sch_val HC.out (HIN.out.up HBX.out)).mono ?_); rintro e w1 ⟨rfl, hb1⟩; have HB1 := Lib.hid hb1; clear hb1)))
        go_roundw
        case rel => exact ⟨k + 1, by omega, by go_num, by rw [HX1.out, schA_in HI.out, HC.out], bthen (bthen HB.out (by go_grown) HB.out.size) HB1.out (by have := HB.out.size; simp; omega)⟩
        case measure => simp [intOf]; omega
      · have he2 : (schE x != 0) = true := by simpa using he
        have HC := Lib.hid he
        clear he
        go_wp2_with (first
          | (go_at_call 35; ((with_reducible refine (tidx_val HI.out _ _ _ _ _ _ _ _ _ _ _).mono ?_); rintro e w' ⟨rfl, rfl⟩))
          | (go_at_call 28; ((with_reducible refine (sch_any x (HIN.out.up HBX.out)).mono ?_); rintro e w1 ⟨rfl, hb1⟩; have HB1 := Lib.hid hb1; clear hb1)))
        go_ret
        exact ⟨ret_int (HE1.out k x _ HE.out HX.out (schA_in HI.out) HC.out).symm, bthen HBX.out HB1.out HBX.out.size⟩
    · have e : k = nS := by omega
      subst e
      have HE0 : Hid (E = 0) := Lib.hid (HE2.out (by
        have := HE.out
        rwa [List.take_of_length_le (by rw [List.length_map, HL.out]; exact Nat.le_refl _)] at this))
      go_wp2
      go_ret
      exact ⟨ret_int HE0.out.symm, HBW.out⟩

set_option maxRecDepth 100000 in
set_option maxHeartbeats 1600000 in
theorem rschs_any {w : World} {A : Option Addr} {nS c : Nat} {S : List Sch} (n : Nat) (hs : RdT w (· < w.heap.size) 4 Sch.cs A nS S) (hn : nS ≤ maxLen) (hok : ∀ x ∈ S, SchIn w x) :
    Calls Try.prog 37 #[.int .i64 (n : Int), .slice A nS c] w fun e w' => e = .returned (.int .i64 (schsE n S)) ∧ Below w.heap.size w w' := by
  have hlen := hs.1
  unfold maxLen at hn
  by_cases h256 : 256 < nS
  · have hE : schsE n S = 8 := if_pos (by rw [hlen]; exact h256)
    rw [hE]
    clear hE hs hok hlen
    go_enter Try.func37, Try.ntmps37
    go_wp2
    go_ret
    exact ⟨rfl, by go_grown⟩
  have H256 : Hid (¬ 256 < S.length) := Lib.hid (by rw [hlen]; exact h256)
  have n256 : nS ≤ 256 := by omega
  have HL := Lib.hid hlen
  have HM := Lib.hid hs
  have HOK := Lib.hid hok
  have HE1 : Hid (∀ k x v, firstE ((S.map (schA n)).take k) = 0 → S[k]? = some x → schA n x = v → v ≠ 0 → schsE n S = v) := Lib.hid fun k p v a b c d => schs_err H256.out a b c d
  have HE2 : Hid (firstE (S.map (schA n)) = 0 → schsE n S = 0) := Lib.hid fun a => schs_zero H256.out a
  obtain ⟨E, hEE⟩ : ∃ E, schsE n S = E := ⟨_, rfl⟩
  rw [hEE] at HE1 HE2 ⊢
  clear hs hn hok hlen h256 H256 hEE
  go_enter Try.func37, Try.ntmps37
  go_wp2
  go_loopw [5] (fun i wr => ∃ k : Nat, k ≤ nS ∧ i = .int .i64 (k : Nat) ∧ firstE ((S.map (schA n)).take k) = 0 ∧ Below w.heap.size w wr) (fun i _ => nS - (intOf i).toNat)
  case atStart => exact ⟨0, Nat.zero_le _, rfl, rfl, Below.refl _ _⟩
  case round =>
    obtain ⟨k, hk, rfl, hE, hbel⟩ := hrel
    have HE := Lib.hid hE
    have HB := Lib.hid hbel
    clear hE hbel
    by_cases hlt : k < nS
    · obtain ⟨x, hx⟩ := at_lt (l := S) (k := k) (by rw [HL.out]; exact hlt)
      obtain ⟨b, o, rfl, hb, hc⟩ := HM.out.2 (by omega)
      have hcx := (HM.out.cells_ hlt hx HB.out).2
      have c0 := hcx 0 _ rfl
      rw [Nat.add_zero] at c0
      have c1 := hcx 1 _ rfl
      have c2 := hcx 2 _ rfl
      have c3 := hcx 3 _ rfl
      clear hcx hc
      have HIN := Lib.hid ((HOK.out x (List.mem_of_getElem? hx)).up HB.out)
      have HX1 := Lib.hid (firstE_take HE.out (show (S.map (schA n))[k]? = some (schA n x) by simp [hx]))
      have HX := Lib.hid hx
      clear hx
      cases hi : inB n x.con
      · have HI := Lib.hid hi
        have hi' := inB_not.1 hi
        clear hi
        go_wp2
        all_goals first | (exfalso; omega) | (go_ret; exact ⟨ret_int (HE1.out k x 7 HE.out HX.out (schA_out HI.out) (by decide)).symm, HB.out⟩)
      have HI := Lib.hid hi
      obtain ⟨j0, j1⟩ := inB_iff.1 hi
      clear hi
      by_cases he : schE x = 0
      · have HC := Lib.hid he
        clear he
        go_wp2_with (go_at_call 51; ((with_reducible refine (rsch_val HC.out HIN.out).mono ?_); rintro e w1 ⟨rfl, hb1⟩; have HB1 := Lib.hid hb1; clear hb1))
        go_roundw
        case rel => exact ⟨k + 1, by omega, by go_num, by rw [HX1.out, schA_in HI.out, HC.out], bthen HB.out HB1.out HB.out.size⟩
        case measure => simp [intOf]; omega
      · have he2 : (schE x != 0) = true := by simpa using he
        have HC := Lib.hid he
        clear he
        go_wp2_with (go_at_call 51; ((with_reducible refine (rsch_any x HIN.out).mono ?_); rintro e w1 ⟨rfl, hb1⟩; have HB1 := Lib.hid hb1; clear hb1))
        go_ret
        exact ⟨ret_int (HE1.out k x _ HE.out HX.out (schA_in HI.out) HC.out).symm, bthen HB.out HB1.out HB.out.size⟩
    · have e : k = nS := by omega
      subst e
      have HE0 : Hid (E = 0) := Lib.hid (HE2.out (by
        have := HE.out
        rwa [List.take_of_length_le (by rw [List.length_map, HL.out]; exact Nat.le_refl _)] at this))
      go_wp2
      go_ret
      exact ⟨ret_int HE0.out.symm, HB.out⟩
end Go.Proofs.Ytpeidgfaejnhiaa
