/- General words on lists, results, slices of structs (II). -/
import Derived.Test.YtmoakdplhfgipaaSlices
import Derived.Shelf.Abstract
import Derived.Maps.AppendAt
import Derived.Laws.MakeOwn
namespace Go.Proofs.Ytmoakdplhfgipaa
set_option maxRecDepth 20000
open Go.RowKit Go.Maps

/-- the index of the first element with a property, or -1 -/
def idxV {α : Type} (p : α → Bool) (L : List α) : Int := match L.findIdx? p with | some i => (i : Int) | none => -1
theorem idxV_hit {α : Type} {p : α → Bool} {L : List α} {k : Nat} {x : α} (h : ∀ y ∈ L.take k, p y = false) (hx : L[k]? = some x) (hp : p x = true) : idxV p L = (k : Int) := by
  have hlt : k < L.length := by
    rcases Nat.lt_or_ge k L.length with h1 | h1
    · exact h1
    · rw [List.getElem?_eq_none h1] at hx; cases hx
  have : L.findIdx? p = some k := by
    rw [List.findIdx?_eq_some_iff_getElem]
    refine ⟨hlt, by rw [List.getElem?_eq_getElem hlt] at hx; cases hx; exact hp, fun j hj => ?_⟩
    rw [h L[j] (List.mem_of_getElem? (i := j) (by rw [List.getElem?_take_of_lt hj, List.getElem?_eq_getElem (by omega)]))]
    decide
  unfold idxV
  rw [this]
theorem idxV_miss {α : Type} {p : α → Bool} {L : List α} (h : ∀ y ∈ L, p y = false) : idxV p L = -1 := by
  have : L.findIdx? p = none := by
    rw [List.findIdx?_eq_none_iff]
    exact h
  unfold idxV
  rw [this]
theorem idxV_cases {α : Type} (p : α → Bool) (L : List α) : idxV p L = -1 ∨ ∃ i : Nat, idxV p L = (i : Int) ∧ i < L.length ∧ ∃ x, L[i]? = some x ∧ p x = true ∧ ∀ y ∈ L.take i, p y = false := by
  unfold idxV
  cases h : L.findIdx? p with
  | none => exact .inl rfl
  | some i =>
    obtain ⟨h1, h2, h3⟩ := List.findIdx?_eq_some_iff_getElem.1 h
    refine .inr ⟨i, rfl, h1, L[i], List.getElem?_eq_getElem h1, h2, fun y hy => ?_⟩
    obtain ⟨j, hj⟩ := List.getElem?_of_mem hy
    have hji : j < i := by
      rcases Nat.lt_or_ge j i with h4 | h4
      · exact h4
      · rw [List.getElem?_eq_none (by rw [List.length_take]; omega)] at hj; cases hj
    rw [List.getElem?_take_of_lt hji, List.getElem?_eq_getElem (by omega)] at hj
    cases hj
    simpa using h3 j hji
theorem take_all {α : Type} {L : List α} {p : α → Bool} {k : Nat} {x : α} (h : ∀ y ∈ L.take k, p y = false) (hx : L[k]? = some x) (hp : p x = false) : ∀ y ∈ L.take (k + 1), p y = false := by
  have : L.take (k + 1) = L.take k ++ [x] := by rw [List.take_add_one, hx]; rfl
  rw [this]
  intro y hy
  rcases List.mem_append.1 hy with h1 | h1
  · exact h y h1
  · rw [List.mem_singleton.1 h1]; exact hp

/-- the indices of the elements with a property -/
def atL {α : Type} (p : α → Bool) (L : List α) : List Nat := (L.zipIdx.filter fun y => p y.1).map (·.2)
theorem atL_snoc {α : Type} (p : α → Bool) (L : List α) (x : α) : atL p (L ++ [x]) = atL p L ++ if p x then [L.length] else [] := by
  unfold atL
  rw [List.zipIdx_append, List.filter_append, List.map_append]
  cases h : p x <;> simp [h]
theorem atL_take {α : Type} (p : α → Bool) {L : List α} {k : Nat} {x : α} (hx : L[k]? = some x) : atL p (L.take (k + 1)) = atL p (L.take k) ++ if p x then [k] else [] := by
  have hlt : k < L.length := by
    rcases Nat.lt_or_ge k L.length with h1 | h1
    · exact h1
    · rw [List.getElem?_eq_none h1] at hx; cases hx
  have : L.take (k + 1) = L.take k ++ [x] := by rw [List.take_add_one, hx]; rfl
  rw [this, atL_snoc, List.length_take, Nat.min_eq_left (Nat.le_of_lt hlt)]
theorem atL_len {α : Type} (p : α → Bool) (L : List α) : (atL p L).length ≤ L.length := by
  unfold atL
  rw [List.length_map]
  have := List.length_filter_le (fun y : α × Nat => p y.1) L.zipIdx
  simpa using this
theorem atL_mem {α : Type} {p : α → Bool} {L : List α} {i : Nat} : i ∈ atL p L ↔ ∃ x, L[i]? = some x ∧ p x = true := by
  unfold atL
  simp only [List.mem_map, List.mem_filter]
  constructor
  · rintro ⟨⟨x, j⟩, ⟨h1, h2⟩, rfl⟩
    exact ⟨x, by simpa using List.mem_zipIdx_iff_getElem?.1 h1, h2⟩
  · rintro ⟨x, h1, h2⟩
    exact ⟨(x, i), ⟨List.mem_zipIdx_iff_getElem?.2 (by simpa using h1), h2⟩, rfl⟩
def ints (l : List Nat) : List Value := l.map fun i : Nat => Value.int .i64 (i : Int)
theorem ints_length (l : List Nat) : (ints l).length = l.length := by simp [ints]
theorem ints_snoc (l : List Nat) (k : Nat) : ints (l ++ [k]) = ints l ++ [.int .i64 (k : Int)] := by simp [ints]
theorem own_rd {w : World} {base : Nat} {e : TypeId} {v : Value} {n : Nat} {xs : List Value} (h : w.ownsRow base e 1 v n xs) : ∃ A c, v = .slice A n c ∧ RdS w (fun b => base ≤ b ∧ b < w.heap.size) A n xs := by
  rcases h.2 with ⟨rfl, rfl⟩ | ⟨g, cap, cur, rfl, _⟩
  · have h1 := h.1
    simp at h1
    subst h1
    exact ⟨none, 0, rfl, RdS.none_⟩
  · exact ⟨_, _, rfl, (RdS.of_own h).mono fun b hb => ⟨hb.1, hb.2.1⟩⟩
theorem cell_one_new1 (w : World) (o : Obj) (v : Value) (t : TypeId) : ∀ j u, [v][j]? = some u → ((w.alloc o).alloc (.cells #[v] t)).cell? ((⟨w.heap.size + 1, 0, none⟩ : Addr).add j) = some u := by
  have := cell_one_new (w.alloc o) v t
  rwa [show (w.alloc o).heap.size = w.heap.size + 1 by simp] at this
theorem infoI : (Try.prog.info? 3).map (fun i => (i.zero, i.size, i.bytes)) = some (some (.int .i64 0), 1, 8) := by kernel_rfl

theorem flat_at {α : Type} {f : α → List Value} {s : Nat} (hf : ∀ x, (f x).length = s) : ∀ (L : List α) (i j : Nat) (x : α) (u : Value), L[i]? = some x → (f x)[j]? = some u → (L.map f).flatten[i * s + j]? = some u
  | [], i, j, x, u, h, _ => by simp at h
  | y :: r, 0, j, x, u, h, h' => by
    simp at h
    subst h
    have hj : j < (f y).length := by
      rcases Nat.lt_or_ge j (f y).length with h1 | h1
      · exact h1
      · rw [List.getElem?_eq_none h1] at h'; cases h'
    simp only [List.map_cons, List.flatten_cons, Nat.zero_mul, Nat.zero_add]
    rw [List.getElem?_append_left hj, h']
  | y :: r, i + 1, j, x, u, h, h' => by
    simp only [List.map_cons, List.flatten_cons]
    have e : (i + 1) * s + j - (f y).length = i * s + j := by rw [hf, Nat.add_mul, Nat.one_mul]; omega
    rw [List.getElem?_append_right (by rw [hf, Nat.add_mul, Nat.one_mul]; omega), e]
    exact flat_at hf r i j x u (by simpa using h) h'
/-- a slice literal of structs reads as its elements -/
theorem RdT.lit {α : Type} (w : World) {f : α → List Value} {s : Nat} (hf : ∀ x, (f x).length = s) (L : List α) (cs : Array Value) (t : TypeId) (hc : cs.toList = (L.map f).flatten) :
    RdT (w.alloc (.cells cs t)) (· < (w.alloc (.cells cs t)).heap.size) s f (some ⟨w.heap.size, 0, none⟩) L.length L :=
  ⟨rfl, fun _ => ⟨w.heap.size, 0, rfl, by simp, fun i x hx j u hu => by
    have h1 := (Blk.new w t cs).cell (i * s + j)
    rw [Nat.zero_add, h1]
    have h2 := flat_at hf L i j x u hx hu
    rw [← hc] at h2
    simpa using h2⟩⟩

def rowI (cs : List Int) : Array Value := (cs.map (Value.int .i64)).toArray
theorem run_make_ints (n : Nat) (hn : n ≤ 1099511627776) (w : World) :
    (Instr.makeSlice 29 (.int .i64 (n : Int)) (.int .i64 (n : Int))).run Try.prog w = .ok (.slice (some ⟨w.heap.size, 0, none⟩) n n) (w.alloc (.cells (rowI (List.replicate n 0)) 3)) := by
  obtain ⟨i0, hi, hz0, hz1, hz2⟩ := info_parts infoI
  have hr := run_make (P := Try.prog) w 29 3 i0 (.int .i64 0) Try.underlying29 hi hz0 .i64 .i64 (n : Int) (n : Int) (by omega) (by omega) (by rw [hz2]; omega) (by omega)
  have e : madeCells (Value.int .i64 0).cells (n * i0.size) = rowI (List.replicate n 0) := by
    have h1 := toList_madeCells_one (Value.int .i64 0) n
    rw [hz1, Nat.mul_one]
    apply Array.toList_inj.1
    show (madeCells #[Value.int .i64 0] n).toList = _
    rw [h1]
    unfold rowI
    simp
  simp only [Int.toNat_natCast] at hr
  rw [hr, e]
theorem row_cell {w : World} {g : Nat} {t : TypeId} {cs : List Int} (h : Blk w g t (rowI cs)) {i : Nat} {v : Int} (hv : cs[i]? = some v) : w.cell? ⟨g, i, none⟩ = some (.int .i64 v) := by
  rw [h.cell i]
  unfold rowI
  simp [hv]
theorem row_set {w : World} {g : Nat} {t : TypeId} {cs : List Int} (h : Blk w g t (rowI cs)) (i : Nat) (v : Int) : Blk (w.setCell ⟨g, i, none⟩ (.int .i64 v)) g t (rowI (cs.set i v)) := by
  have h1 := h.set_ i (.int .i64 v)
  have e : (rowI cs).setIfInBounds i (.int .i64 v) = rowI (cs.set i v) := by
    unfold rowI
    simp
  rwa [e] at h1
theorem atL_nodup {α : Type} (p : α → Bool) (L : List α) : (atL p L).Nodup := by
  unfold atL
  have h1 : ((L.zipIdx.filter fun y => p y.1).map (·.2)).Sublist (L.zipIdx.map (·.2)) := List.Sublist.map _ List.filter_sublist
  refine List.Nodup.sublist h1 ?_
  have h2 : L.zipIdx.map (·.2) = List.range' 0 L.length := by
    have := List.zipIdx_map_snd 0 L
    exact this
  rw [h2]
  exact List.nodup_range'
theorem nodup_at {l : List Nat} (h : l.Nodup) {j i : Nat} (hj : l[j]? = some i) : i ∉ l.take j := by
  intro hm
  obtain ⟨k, hk⟩ := List.getElem?_of_mem hm
  have hkj : k < j := by
    rcases Nat.lt_or_ge k j with h4 | h4
    · exact h4
    · rw [List.getElem?_eq_none (by rw [List.length_take]; omega)] at hk; cases hk
  rw [List.getElem?_take_of_lt hkj] at hk
  obtain ⟨l1, g1⟩ := List.getElem?_eq_some_iff.1 hk
  obtain ⟨l2, g2⟩ := List.getElem?_eq_some_iff.1 hj
  have := (List.getElem_inj (h₀ := l1) (h₁ := l2) h).1 (by rw [g1, g2])
  omega

end Go.Proofs.Ytmoakdplhfgipaa
