/- Rows of counters: make, read, raise (for ContainerPlaces). -/
import Derived.Test.YtabldmoifkgchaaConN
import Derived.Laws.MakeOwn
namespace Go.Proofs.Ytabldmoifkgchaa
open Go.RowKit Go.Maps

def rowI (cs : List Int) : Array Value := (cs.map (Value.int .i64)).toArray
theorem run_make_ints (n : Nat) (hn : n ≤ 1099511627776) (w : World) :
    (Instr.makeSlice 37 (.int .i64 (n : Int)) (.int .i64 (n : Int))).run Try.prog w = .ok (.slice (some ⟨w.heap.size, 0, none⟩) n n) (w.alloc (.cells (rowI (List.replicate n 0)) 3)) := by
  obtain ⟨i0, hi, hz0, hz1, hz2⟩ := info_parts infoI
  have hr := run_make (P := Try.prog) w 37 3 i0 (.int .i64 0) Try.underlying37 hi hz0 .i64 .i64 (n : Int) (n : Int) (by omega) (by omega) (by rw [hz2]; omega) (by omega)
  have e : madeCells (Value.int .i64 0).cells (n * i0.size) = rowI (List.replicate n 0) := by
    have h1 := toList_madeCells_one (Value.int .i64 0) n
    rw [hz1, Nat.mul_one]
    apply Array.toList_inj.1
    show (madeCells #[Value.int .i64 0] n).toList = _
    rw [h1]
    unfold rowI
    simp
  simp only [Int.toNat_natCast] at hr
  rw [hr, e]
theorem row_cell {w : World} {g : Nat} {t : TypeId} {cs : List Int} (h : Blk w g t (rowI cs)) {i : Nat} {v : Int} (hv : cs[i]? = some v) : w.cell? ⟨g, i, none⟩ = some (.int .i64 v) := by
  rw [h.cell i]
  unfold rowI
  simp [hv]
theorem row_set {w : World} {g : Nat} {t : TypeId} {cs : List Int} (h : Blk w g t (rowI cs)) (i : Nat) (v : Int) : Blk (w.setCell ⟨g, i, none⟩ (.int .i64 v)) g t (rowI (cs.set i v)) := by
  have h1 := h.set_ i (.int .i64 v)
  have e : (rowI cs).setIfInBounds i (.int .i64 v) = rowI (cs.set i v) := by
    unfold rowI
    simp
  rwa [e] at h1
theorem atL_nodup {α : Type} (p : α → Bool) (L : List α) : (atL p L).Nodup := by
  unfold atL
  have h1 : ((L.zipIdx.filter fun y => p y.1).map (·.2)).Sublist (L.zipIdx.map (·.2)) := List.Sublist.map _ List.filter_sublist
  refine List.Nodup.sublist h1 ?_
  have h2 : L.zipIdx.map (·.2) = List.range' 0 L.length := by
    have := List.zipIdx_map_snd 0 L
    exact this
  rw [h2]
  exact List.nodup_range'
theorem nodup_at {l : List Nat} (h : l.Nodup) {j i : Nat} (hj : l[j]? = some i) : i ∉ l.take j := by
  intro hm
  obtain ⟨k, hk⟩ := List.getElem?_of_mem hm
  have hkj : k < j := by
    rcases Nat.lt_or_ge k j with h4 | h4
    · exact h4
    · rw [List.getElem?_eq_none (by rw [List.length_take]; omega)] at hk; cases hk
  rw [List.getElem?_take_of_lt hkj] at hk
  obtain ⟨l1, g1⟩ := List.getElem?_eq_some_iff.1 hk
  obtain ⟨l2, g2⟩ := List.getElem?_eq_some_iff.1 hj
  have := (List.getElem_inj (h₀ := l1) (h₁ := l2) h).1 (by rw [g1, g2])
  omega

/-- the counters behind all nodes below t, and behind the containers of the list s at node t -/
def Cnt (w : World) (g n : Nat) (L : List Con) (t : Int) (s : List Nat) : Prop :=
  ∃ cs : List Int, cs.length = n ∧ Blk w g 3 (rowI cs) ∧ ∀ i x, L[i]? = some x → cs[i]? = some (if x.node < t ∨ i ∈ s then 1 else 0)
theorem Cnt.made {w : World} {n : Nat} {L : List Con} (hL : L.length = n) (h0 : ∀ x ∈ L, 0 ≤ x.node) : Cnt (w.alloc (.cells (rowI (List.replicate n 0)) 3)) w.heap.size n L 0 [] := by
  refine ⟨List.replicate n 0, by simp, Blk.new w _ _, fun i x hx => ?_⟩
  have h1 := h0 x (List.mem_of_getElem? hx)
  have h2 : i < n := by rw [← hL]; exact (List.getElem?_eq_some_iff.1 hx).1
  rw [if_neg (by simp; omega)]
  simp [h2]
theorem Cnt.grow {w w' : World} {g n : Nat} {L : List Con} {t : Int} {s : List Nat} (h : Cnt w g n L t s) (hb : Below w.heap.size w w') : Cnt w' g n L t s := by
  obtain ⟨cs, h1, h2, h3⟩ := h
  exact ⟨cs, h1, h2.grow hb, h3⟩
theorem Cnt.lt {w : World} {g n : Nat} {L : List Con} {t : Int} {s : List Nat} (h : Cnt w g n L t s) : g < w.heap.size := by
  obtain ⟨cs, h1, h2, h3⟩ := h
  exact h2.lt
theorem Cnt.cell {w : World} {g n : Nat} {L : List Con} {t : Int} {s : List Nat} (h : Cnt w g n L t s) {i : Nat} {x : Con} (hx : L[i]? = some x) : w.cell? ⟨g, i, none⟩ = some (.int .i64 (if x.node < t ∨ i ∈ s then 1 else 0)) ∧ w.frozen? ⟨g, i, none⟩ = false := by
  obtain ⟨cs, h1, h2, h3⟩ := h
  exact ⟨row_cell h2 (h3 i x hx), h2.frozen i⟩
theorem Cnt.raise {w : World} {g n : Nat} {L : List Con} {t : Int} {s : List Nat} (h : Cnt w g n L t s) {i : Nat} {x : Con} (hx : L[i]? = some x) : Cnt (w.setCell ⟨g, i, none⟩ (.int .i64 1)) g n L t (s ++ [i]) := by
  obtain ⟨cs, h1, h2, h3⟩ := h
  refine ⟨cs.set i 1, by simp [h1], row_set h2 i 1, fun k y hy => ?_⟩
  rw [List.getElem?_set]
  by_cases e : i = k
  · subst e
    have h4 : i < cs.length := by
      have := h3 i y hy
      exact (List.getElem?_eq_some_iff.1 this).1
    rw [if_pos rfl, if_pos h4, if_pos (.inr (by simp))]
  · rw [if_neg e, h3 k y hy]
    have h5 : (y.node < t ∨ k ∈ s) ↔ (y.node < t ∨ k ∈ s ++ [i]) := by
      simp only [List.mem_append, List.mem_singleton]
      constructor
      · rintro (h | h)
        · exact .inl h
        · exact .inr (.inl h)
      · rintro (h | h | h)
        · exact .inl h
        · exact .inr h
        · exact absurd h.symm e
    simp only [h5]
theorem Cnt.next {w : World} {g n : Nat} {L : List Con} {t : Int} (h : Cnt w g n L t (atL (fun x : Con => decide (x.node = t)) L)) : Cnt w g n L (t + 1) [] := by
  obtain ⟨cs, h1, h2, h3⟩ := h
  refine ⟨cs, h1, h2, fun i x hx => ?_⟩
  rw [h3 i x hx]
  have h5 : (x.node < t ∨ i ∈ atL (fun x : Con => decide (x.node = t)) L) ↔ (x.node < t + 1 ∨ i ∈ ([] : List Nat)) := by
    rw [atL_mem]
    constructor
    · rintro (h | ⟨y, hy, hp⟩)
      · exact .inl (by omega)
      · rw [hx] at hy
        cases hy
        simp at hp
        exact .inl (by omega)
    · rintro (h | h)
      · by_cases e : x.node = t
        · exact .inr ⟨x, hx, by simpa using e⟩
        · exact .inl (by omega)
      · simp at h
  simp only [h5]
end Go.Proofs.Ytabldmoifkgchaa
