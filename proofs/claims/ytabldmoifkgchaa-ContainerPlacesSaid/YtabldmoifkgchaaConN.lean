/- What a valid register means, in plain Lean: distinct identifiers, each container at one of the nodes. -/
import Derived.Test.YtabldmoifkgchaaConA
namespace Go.Proofs.Ytabldmoifkgchaa

theorem chk_ok {L : List Con} {m q : Int} (h : chkL L m q = 0) : L.length ≤ 256 ∧ (L.map Con.id).Nodup ∧ ∀ x ∈ L, conE x m q = 0 := by
  unfold chkL at h
  split at h
  · simp at h
  · rename_i h1
    split at h
    · rename_i h2; exact absurd h h2
    · rename_i h2
      split at h
      · rename_i h3
        refine ⟨by omega, h3, fun x hx => ?_⟩
        exact firstE_zero_iff.1 (Classical.not_not.1 h2) _ (List.mem_map.2 ⟨x, hx, rfl⟩)
      · simp at h
theorem nodup_find {L : List Con} (h : (L.map Con.id).Nodup) {k : Nat} {x : Con} (hx : L[k]? = some x) : findV L x.id = (k : Int) ∧ findB L x.id = true := by
  have hv : idxV (fun y : Con => decide (y.id = x.id)) L = (k : Int) := by
    refine idxV_hit (fun y hy => ?_) hx (by simp)
    obtain ⟨j, hj⟩ := List.getElem?_of_mem hy
    have hjk : j < k := by
      rcases Nat.lt_or_ge j k with h4 | h4
      · exact h4
      · rw [List.getElem?_eq_none (by rw [List.length_take]; omega)] at hj; cases hj
    rw [List.getElem?_take_of_lt hjk] at hj
    apply decide_eq_false
    intro e
    have h1 : (L.map Con.id)[j]? = some y.id := by simp [hj]
    have h2 : (L.map Con.id)[k]? = some x.id := by simp [hx]
    obtain ⟨l1, g1⟩ := List.getElem?_eq_some_iff.1 h1
    obtain ⟨l2, g2⟩ := List.getElem?_eq_some_iff.1 h2
    have := (List.getElem_inj (h₀ := l1) (h₁ := l2) h).1 (by rw [g1, g2, e])
    omega
  unfold findV findB
  rw [hv]
  refine ⟨if_neg (by omega), ?_⟩
  simp
  try omega
theorem con_node {x : Con} {m q : Int} (h : conE x m q = 0) : 0 ≤ x.node ∧ x.node < q := by
  unfold conE at h
  split at h
  · simp at h
  · split at h
    · simp at h
    · split at h
      · simp at h
      · split at h
        · simp at h
        · omega
end Go.Proofs.Ytabldmoifkgchaa
