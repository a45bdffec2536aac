/- The contract of the reference's reasons. -/
import Derived.Test.YtmkbgjilkdbmiaaTskE
import Derived.IntWalk
namespace Go.Proofs.Ytmkbgjilkdbmiaa
open Go.RowKit Go.Maps

theorem tsk_zero {C : List Con} {S : List Sch} {F : List Fil} {day level : Int} (h : tskE C S F day level = 0) : chkL C 16 64 = 0 ∧ schsE C.length S = 0 ∧ filsE C F = 0 ∧ 0 ≤ day ∧ day ≤ 36524 ∧ 1 ≤ level ∧ level ≤ 1000 := by
  by_cases h1 : chkL C 16 64 = 0
  · by_cases h2 : schsE C.length S = 0
    · by_cases h3 : filsE C F = 0
      · rw [tsk_d h1 h2 h3] at h
        split at h
        · cases h
        · exact ⟨h1, h2, h3, by omega, by omega, by omega, by omega⟩
      · rw [tsk_f h1 h2 h3] at h; exact absurd h h3
    · rw [tsk_s h1 h2] at h; exact absurd h h2
  · rw [tsk_c h1] at h; exact absurd h h1
theorem con_ok {C : List Con} {m n : Int} (h : chkL C m n = 0) {x : Con} (hx : x ∈ C) : 0 ≤ x.kind ∧ x.kind < m ∧ 1 ≤ x.gr ∧ x.gr ≤ 1073741824 ∧ 0 ≤ x.node ∧ x.node < n := by
  have h0 : conE x m n = 0 := by
    unfold chkL at h
    split at h
    · cases h
    · split at h
      · rename_i h1 h2; exact absurd h h2
      · rename_i h1 h2
        have h3 : firstE (C.map (conE · m n)) = 0 := Decidable.not_not.1 h2
        exact firstE_zero_iff.1 h3 _ (List.mem_map.2 ⟨x, hx, rfl⟩)
  unfold conE at h0
  split at h0
  · cases h0
  · split at h0
    · cases h0
    · split at h0
      · cases h0
      · split at h0
        · cases h0
        · refine ⟨?_, ?_, ?_, ?_, ?_, ?_⟩ <;> omega
theorem con_len {C : List Con} {m n : Int} (h : chkL C m n = 0) : C.length ≤ 256 := by
  unfold chkL at h
  split at h
  · cases h
  · omega
theorem fil_ok {C : List Con} {F : List Fil} (h : filsE C F = 0) : (F.map Fil.con).Nodup ∧ ∀ f ∈ F, 0 ≤ f.con ∧ f.con < C.length ∧ 0 ≤ f.lo ∧ f.lo ≤ f.hi ∧ f.hi ≤ grAt C f.con := by
  unfold filsE at h
  split at h
  · cases h
  · split at h
    · rename_i h1 h2; exact absurd h h2
    · rename_i h1 h2
      split at h
      · rename_i h3
        refine ⟨h3, fun f hf => ?_⟩
        have h4 := firstE_zero_iff.1 (Decidable.not_not.1 h2) _ (List.mem_map.2 ⟨f, hf, rfl⟩)
        unfold filE at h4
        split at h4
        · cases h4
        · split at h4
          · cases h4
          · refine ⟨?_, ?_, ?_, ?_, ?_⟩ <;> omega
      · cases h
/-- whether a container with g grams, x of which are there, has reached a level -/
def lvlB (g x level : Int) : Bool := decide (level ≤ (x * 1000 + g - 1) / g)
theorem lvl_is {g x level : Int} (h1 : 1 ≤ g) (h2 : g ≤ 1073741824) (h3 : 0 ≤ x) (h4 : x ≤ 1073741824) (h5 : level ≤ 1000) : levE g x = 0 ∧ (decide (level ≤ levV g x) = lvlB g x level) := by
  have hb : ¬ levB g x := by unfold levB; omega
  refine ⟨if_neg hb, ?_⟩
  unfold lvlB
  rw [show levV g x = min ((x * 1000 + g - 1) / g) 1000 from if_neg hb]
  by_cases h : level ≤ (x * 1000 + g - 1) / g
  · rw [decide_eq_true h]; exact decide_eq_true (by omega)
  · rw [decide_eq_false h]; exact decide_eq_false (by omega)

/-- what the reference's loop over the fills holds behind k rounds -/
def Rr (F : List Fil) (gr level i du : Int) (k : Nat) (why grams : Int) : Prop :=
  ((∀ f ∈ F.take k, f.con ≠ i) ∧ why = du ∧ grams = gr) ∨ (∃ j f, j < k ∧ F[j]? = some f ∧ f.con = i ∧ grams = f.hi ∧ why = du + if lvlB gr f.hi level then 2 else 0)
theorem Rr.no {F : List Fil} {gr level i du : Int} {k : Nat} {why grams : Int} {f : Fil} (h : Rr F gr level i du k why grams) (hf : F[k]? = some f) (hn : f.con ≠ i) : Rr F gr level i du (k + 1) why grams := by
  rcases h with ⟨h1, h2, h3⟩ | ⟨j, x, h1, h2⟩
  · refine .inl ⟨fun y hy => ?_, h2, h3⟩
    rw [List.take_add_one, hf] at hy
    rcases List.mem_append.1 hy with hy | hy
    · exact h1 y hy
    · rw [List.mem_singleton.1 hy]; exact hn
  · exact .inr ⟨j, x, by omega, h2⟩
theorem Rr.first {F : List Fil} {gr level i du : Int} {k : Nat} {why grams : Int} {f : Fil} (h : Rr F gr level i du k why grams) (hnd : (F.map Fil.con).Nodup) (hf : F[k]? = some f) (hn : f.con = i) : why = du := by
  rcases h with ⟨h1, h2, h3⟩ | ⟨j, x, h1, hx, h2, _⟩
  · exact h2
  · exfalso
    have hk : (F.map Fil.con)[k]? = some i := by simp [hf, hn]
    have hj : (F.map Fil.con)[j]? = some i := by simp [hx, h2]
    exact nod_not hk (List.mem_of_getElem? (i := j) (by rw [List.getElem?_take_of_lt h1]; exact hj)) hnd
theorem Rr.yes {F : List Fil} {gr level i du : Int} {k : Nat} {f : Fil} (hf : F[k]? = some f) (hn : f.con = i) {b : Bool} (hb : lvlB gr f.hi level = b) : Rr F gr level i du (k + 1) (du + if b then 2 else 0) f.hi :=
  .inr ⟨k, f, by omega, hf, hn, rfl, by rw [hb]⟩
theorem Rr.done {C : List Con} {S : List Sch} {F : List Fil} {day level : Int} {i : Nat} {x : Con} {why grams : Int} (hx : C[i]? = some x) (h5 : tskE C S F day level = 0) (h : Rr F x.gr level i (if dueA S i day then 1 else 0) F.length why grams) : why = reaV C S F day level i ∧ grams = massV C F i := by
  obtain ⟨hc, _, hf, _, _, l1, l2⟩ := tsk_zero h5
  obtain ⟨hnd, hfo⟩ := fil_ok hf
  have hg := grAt_is hx
  obtain ⟨_, _, g1, g2, _⟩ := con_ok hc (List.mem_of_getElem? hx)
  rcases h with ⟨h1, h2, h3⟩ | ⟨j, f, hj, hfj, hfi, h2, h3⟩
  · have hv : filI F (i : Int) = -1 := idxV_miss (fun y hy => by simpa using h1 y (by rw [List.take_length]; exact hy))
    have hm : massV C F i = x.gr := by unfold massV; rw [if_pos hv, hg]
    have hk : knownB F (i : Int) = false := by unfold knownB; rw [hv]; rfl
    refine ⟨?_, h3.trans hm.symm⟩
    unfold reaV
    rw [full_not hk, h2]
    simp
  · have hv : filI F (i : Int) = (j : Int) := idxV_hit (fun y hy => by
      obtain ⟨t, ht⟩ := List.getElem?_of_mem hy
      have htj : t < j := by
        rcases Nat.lt_or_ge t j with h4 | h4
        · exact h4
        · rw [List.getElem?_eq_none (by rw [List.length_take]; omega)] at ht; cases ht
      rw [List.getElem?_take_of_lt htj] at ht
      have hjc : (F.map Fil.con)[j]? = some (i : Int) := by simp [hfj, hfi]
      rw [decide_eq_false_iff_not]
      intro e
      exact nod_not hjc (List.mem_of_getElem? (i := t) (by rw [List.getElem?_take_of_lt htj]; simp [ht, e])) hnd) hfj (by simp [hfi])
    have hm : massV C F i = f.hi := by
      unfold massV
      rw [hv, if_neg (by omega)]
      unfold hiAt
      rw [Int.toNat_natCast, hfj]
    have hk : knownB F (i : Int) = true := by unfold knownB; rw [hv, decide_eq_false (by omega)]; rfl
    obtain ⟨f1, f2, f3, f4, f5⟩ := hfo f (List.mem_of_getElem? hfj)
    rw [hfi, hg] at f5
    obtain ⟨e1, e2⟩ := lvl_is g1 g2 (by omega : 0 ≤ f.hi) (by omega) l2
    refine ⟨?_, h2.trans hm.symm⟩
    unfold reaV
    rw [full_known hk hg hm rfl rfl, e1, e2, h3]
    simp
theorem any_take {α : Type} {L : List α} {p : α → Bool} {k : Nat} {x : α} (hx : L[k]? = some x) : (L.take (k + 1)).any p = ((L.take k).any p || p x) := by
  rw [List.take_add_one, hx, List.any_append]
  simp

/-- whether one of the first k schedules asks for a container, as a number -/
def dueN (S : List Sch) (i day : Int) (k : Nat) : Int := if (S.take k).any (fun s => decide (s.con = i) && isDue s day) then 1 else 0
theorem dueN_no {S : List Sch} {i day : Int} {k : Nat} {x : Sch} (hx : S[k]? = some x) (h : (decide (x.con = i) && isDue x day) = false) : dueN S i day (k + 1) = dueN S i day k := by
  unfold dueN
  rw [any_take (p := fun s : Sch => decide (s.con = i) && isDue s day) hx]
  simp only [h, Bool.or_false]
theorem dueN_yes {S : List Sch} {i day : Int} {k : Nat} {x : Sch} (hx : S[k]? = some x) (h : (decide (x.con = i) && isDue x day) = true) : dueN S i day (k + 1) = 1 := by
  unfold dueN
  rw [any_take (p := fun s : Sch => decide (s.con = i) && isDue s day) hx]
  simp only [h, Bool.or_true, if_true]
theorem dueN_all {S : List Sch} {i day : Int} {n : Nat} (h : S.length = n) : dueN S i day n = if dueA S i day then 1 else 0 := by
  unfold dueN dueA
  rw [List.take_of_length_le (by omega)]
theorem dueN_bd (S : List Sch) (i day : Int) (k : Nat) : 0 ≤ dueN S i day k ∧ dueN S i day k ≤ 1 := by unfold dueN; split <;> omega

end Go.Proofs.Ytmkbgjilkdbmiaa
