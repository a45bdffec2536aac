/- The contracts of container.At, of the reference's At, and of the reference's Ints. -/
import Derived.Test.YtabldmoifkgchaaConF
namespace Go.Proofs.Ytabldmoifkgchaa
open Go.RowKit Go.Maps

/-- the indices of the elements with a property -/
def atL {α : Type} (p : α → Bool) (L : List α) : List Nat := (L.zipIdx.filter fun y => p y.1).map (·.2)
theorem atL_snoc {α : Type} (p : α → Bool) (L : List α) (x : α) : atL p (L ++ [x]) = atL p L ++ if p x then [L.length] else [] := by
  unfold atL
  rw [List.zipIdx_append, List.filter_append, List.map_append]
  cases h : p x <;> simp [h]
theorem atL_take {α : Type} (p : α → Bool) {L : List α} {k : Nat} {x : α} (hx : L[k]? = some x) : atL p (L.take (k + 1)) = atL p (L.take k) ++ if p x then [k] else [] := by
  have hlt : k < L.length := by
    rcases Nat.lt_or_ge k L.length with h1 | h1
    · exact h1
    · rw [List.getElem?_eq_none h1] at hx; cases hx
  have : L.take (k + 1) = L.take k ++ [x] := by rw [List.take_add_one, hx]; rfl
  rw [this, atL_snoc, List.length_take, Nat.min_eq_left (Nat.le_of_lt hlt)]
theorem atL_len {α : Type} (p : α → Bool) (L : List α) : (atL p L).length ≤ L.length := by
  unfold atL
  rw [List.length_map]
  have := List.length_filter_le (fun y : α × Nat => p y.1) L.zipIdx
  simpa using this
theorem atL_mem {α : Type} {p : α → Bool} {L : List α} {i : Nat} : i ∈ atL p L ↔ ∃ x, L[i]? = some x ∧ p x = true := by
  unfold atL
  simp only [List.mem_map, List.mem_filter]
  constructor
  · rintro ⟨⟨x, j⟩, ⟨h1, h2⟩, rfl⟩
    exact ⟨x, by simpa using List.mem_zipIdx_iff_getElem?.1 h1, h2⟩
  · rintro ⟨x, h1, h2⟩
    exact ⟨(x, i), ⟨List.mem_zipIdx_iff_getElem?.2 (by simpa using h1), h2⟩, rfl⟩
def ints (l : List Nat) : List Value := l.map fun i : Nat => Value.int .i64 (i : Int)
theorem ints_length (l : List Nat) : (ints l).length = l.length := by simp [ints]
theorem ints_snoc (l : List Nat) (k : Nat) : ints (l ++ [k]) = ints l ++ [.int .i64 (k : Int)] := by simp [ints]
theorem own_rd {w : World} {base : Nat} {e : TypeId} {v : Value} {n : Nat} {xs : List Value} (h : w.ownsRow base e 1 v n xs) : ∃ A c, v = .slice A n c ∧ RdS w (fun b => base ≤ b ∧ b < w.heap.size) A n xs := by
  rcases h.2 with ⟨rfl, rfl⟩ | ⟨g, cap, cur, rfl, _⟩
  · have h1 := h.1
    simp at h1
    subst h1
    exact ⟨none, 0, rfl, RdS.none_⟩
  · exact ⟨_, _, rfl, (RdS.of_own h).mono fun b hb => ⟨hb.1, hb.2.1⟩⟩
theorem cell_one_new1 (w : World) (o : Obj) (v : Value) (t : TypeId) : ∀ j u, [v][j]? = some u → ((w.alloc o).alloc (.cells #[v] t)).cell? ((⟨w.heap.size + 1, 0, none⟩ : Addr).add j) = some u := by
  have := cell_one_new (w.alloc o) v t
  rwa [show (w.alloc o).heap.size = w.heap.size + 1 by simp] at this
theorem infoI : (Try.prog.info? 3).map (fun i => (i.zero, i.size, i.bytes)) = some (some (.int .i64 0), 1, 8) := by kernel_rfl

set_option maxRecDepth 100000 in
set_option maxHeartbeats 800000 in
theorem at_own {w : World} {A : Option Addr} {n c : Nat} {L : List Con} (h : RdT w (· < w.heap.size) 5 Con.cs A n L) (hn : n ≤ 1099511627776) (node : Int) :
    Calls Try.prog 22 #[.slice A n c, .int .i64 node] w fun e w' => ∃ A' c', e = .returned (.slice A' (atL (fun x : Con => decide (x.node = node)) L).length c') ∧ RdS w' (fun b => w.heap.size ≤ b ∧ b < w'.heap.size) A' (atL (fun x : Con => decide (x.node = node)) L).length (ints (atL (fun x : Con => decide (x.node = node)) L)) ∧ Below w.heap.size w w' := by
  have hlen : L.length = n := h.1
  have HL := Lib.hid hlen
  have H := Lib.hid h
  obtain ⟨i0, hi, hz0, hz1, hz2⟩ := info_parts infoI
  clear h hlen
  go_enter Try.func22, Try.ntmps22
  go_wp2
  go_loopw [5, 10] (fun v i wr => ∃ k : Nat, k ≤ n ∧ i = .int .i64 (k : Nat) ∧ wr.ownsRow w.heap.size 3 1 v (atL (fun x : Con => decide (x.node = node)) (L.take k)).length (ints (atL (fun x : Con => decide (x.node = node)) (L.take k))) ∧ Below w.heap.size w wr) (fun _ i _ => n - (intOf i).toNat)
  case atStart => exact ⟨0, Nat.zero_le _, rfl, World.ownsRow_nil _ _ _ _, Below.refl _ _⟩
  case round =>
    obtain ⟨k, hk, rfl, hown, hbel⟩ := hrel
    have HO := Lib.hid hown
    have HB := Lib.hid hbel
    clear hown hbel
    by_cases hlt : k < n
    · obtain ⟨x, hx⟩ := at_lt (l := L) (k := k) (by rw [HL.out]; exact hlt)
      obtain ⟨b, o, rfl, hb, hc⟩ := H.out.2 (by omega)
      have hcx := (H.out.cells_ hlt hx HB.out).2
      have c0 := hcx 0 _ rfl
      rw [Nat.add_zero] at c0
      have c1 := hcx 1 _ rfl
      have c2 := hcx 2 _ rfl
      have c3 := hcx 3 _ rfl
      have c4 := hcx 4 _ rfl
      clear hcx hc
      have HTK := Lib.hid (atL_take (fun x : Con => decide (x.node = node)) hx)
      have hle := atL_len (fun x : Con => decide (x.node = node)) (L.take k)
      rw [List.length_take, HL.out] at hle
      have HBA := Lib.hid (HB.out.alloc HB.out.size (.cells x.vs 29))
      have HOA := Lib.hid (HO.out.alloc (.cells x.vs 29))
      clear hx
      by_cases hp : x.node = node
      · have hq : (x.node == node) = true := by simpa using hp
        have HP : Hid (decide (x.node = node) = true) := Lib.hid (by simpa using hp)
        clear hp
        go_wp2_with (at_builtin; go_loud (refine wpList_append_own _ rfl _ _ 37 rfl w.heap.size 3 i0 (.int .i64 0) 1 8 Try.underlying37 hi hz0 hz1 hz2 rfl (by decide) _ _ _ rfl (HOA.out.alloc _) ⟨wr.heap.size + 1, 0, none⟩ 1 1 [.int .i64 (k : Int)] rfl rfl (cell_one_new1 _ _ _ _) (by intro u hu; simp at hu; subst hu; rfl) (by unfold maxLen; omega) (by omega) (by have := HB.out.size; simp; omega) ?_); intro v' w1 hown1 hgrow _)
        have HG := Lib.hid hgrow
        have HO1 := Lib.hid hown1
        clear hown1 hgrow
        go_roundw
        case rel => exact ⟨k + 1, by omega, by go_num, by rw [HTK.out, if_pos HP.out, List.length_append, ints_snoc]; exact HO1.out, (HBA.out.alloc (by have := HB.out.size; simp; omega) _).grown HG.out (by have := HB.out.size; simp; omega) (fun j e => (HOA.out.lt j e).1)⟩
        case measure => simp [intOf]; omega
      · have hq : (x.node == node) = false := by simpa using hp
        have HP : Hid (¬ (decide (x.node = node) = true)) := Lib.hid (by simpa using hp)
        clear hp
        go_wp2
        go_roundw
        case rel => exact ⟨k + 1, by omega, by go_num, by rw [HTK.out, if_neg HP.out, List.append_nil]; exact HOA.out, HBA.out⟩
        case measure => simp [intOf]; omega
    · have e : k = n := by omega
      subst e
      have ho := HO.out
      rw [List.take_of_length_le (by rw [HL.out]; exact Nat.le_refl _)] at ho
      obtain ⟨A', c', rfl, hrd⟩ := own_rd ho
      have HR := Lib.hid hrd
      clear ho hrd
      go_wp2
      go_ret
      exact ⟨A', c', rfl, HR.out, HB.out⟩
theorem at_any {w : World} {A : Option Addr} {n c : Nat} {L : List Con} (h : RdT w (· < w.heap.size) 5 Con.cs A n L) (hn : n ≤ 1099511627776) (node : Int) :
    Calls Try.prog 22 #[.slice A n c, .int .i64 node] w fun e w' => ∃ A' c', e = .returned (.slice A' (atL (fun x : Con => decide (x.node = node)) L).length c') ∧ RdS w' (· < w'.heap.size) A' (atL (fun x : Con => decide (x.node = node)) L).length (ints (atL (fun x : Con => decide (x.node = node)) L)) ∧ Below w.heap.size w w' :=
  (at_own h hn node).mono fun e w' ⟨A', c', h1, h2, h3⟩ => ⟨A', c', h1, h2.mono fun b hb => hb.2, h3⟩

set_option maxRecDepth 100000 in
set_option maxHeartbeats 800000 in
theorem rat_own {w : World} {A : Option Addr} {n c : Nat} {L : List Con} (h : RdT w (· < w.heap.size) 5 Con.cs A n L) (hn : n ≤ 1099511627776) (node : Int) :
    Calls Try.prog 23 #[.slice A n c, .int .i64 node] w fun e w' => ∃ A' c', e = .returned (.slice A' (atL (fun x : Con => decide (x.node = node)) L).length c') ∧ RdS w' (fun b => w.heap.size ≤ b ∧ b < w'.heap.size) A' (atL (fun x : Con => decide (x.node = node)) L).length (ints (atL (fun x : Con => decide (x.node = node)) L)) ∧ Below w.heap.size w w' := by
  have hlen : L.length = n := h.1
  have HL := Lib.hid hlen
  have H := Lib.hid h
  obtain ⟨i0, hi, hz0, hz1, hz2⟩ := info_parts infoI
  clear h hlen
  go_enter Try.func23, Try.ntmps23
  go_wp2
  go_loopw [5, 10] (fun v i wr => ∃ k : Nat, k ≤ n ∧ i = .int .i64 (k : Nat) ∧ wr.ownsRow w.heap.size 3 1 v (atL (fun x : Con => decide (x.node = node)) (L.take k)).length (ints (atL (fun x : Con => decide (x.node = node)) (L.take k))) ∧ Below w.heap.size w wr) (fun _ i _ => n - (intOf i).toNat)
  case atStart => exact ⟨0, Nat.zero_le _, rfl, World.ownsRow_nil _ _ _ _, Below.refl _ _⟩
  case round =>
    obtain ⟨k, hk, rfl, hown, hbel⟩ := hrel
    have HO := Lib.hid hown
    have HB := Lib.hid hbel
    clear hown hbel
    by_cases hlt : k < n
    · obtain ⟨x, hx⟩ := at_lt (l := L) (k := k) (by rw [HL.out]; exact hlt)
      obtain ⟨b, o, rfl, hb, hc⟩ := H.out.2 (by omega)
      have hcx := (H.out.cells_ hlt hx HB.out).2
      have c0 := hcx 0 _ rfl
      rw [Nat.add_zero] at c0
      have c1 := hcx 1 _ rfl
      have c2 := hcx 2 _ rfl
      have c3 := hcx 3 _ rfl
      have c4 := hcx 4 _ rfl
      clear hcx hc
      have HTK := Lib.hid (atL_take (fun x : Con => decide (x.node = node)) hx)
      have hle := atL_len (fun x : Con => decide (x.node = node)) (L.take k)
      rw [List.length_take, HL.out] at hle
      have HBA := Lib.hid (HB.out.alloc HB.out.size (.cells x.vs 29))
      have HOA := Lib.hid (HO.out.alloc (.cells x.vs 29))
      clear hx
      by_cases hp : x.node = node
      · have hq : (x.node == node) = true := by simpa using hp
        have HP : Hid (decide (x.node = node) = true) := Lib.hid (by simpa using hp)
        clear hp
        go_wp2_with (at_builtin; go_loud (refine wpList_append_own _ rfl _ _ 37 rfl w.heap.size 3 i0 (.int .i64 0) 1 8 Try.underlying37 hi hz0 hz1 hz2 rfl (by decide) _ _ _ rfl (HOA.out.alloc _) ⟨wr.heap.size + 1, 0, none⟩ 1 1 [.int .i64 (k : Int)] rfl rfl (cell_one_new1 _ _ _ _) (by intro u hu; simp at hu; subst hu; rfl) (by unfold maxLen; omega) (by omega) (by have := HB.out.size; simp; omega) ?_); intro v' w1 hown1 hgrow _)
        have HG := Lib.hid hgrow
        have HO1 := Lib.hid hown1
        clear hown1 hgrow
        go_roundw
        case rel => exact ⟨k + 1, by omega, by go_num, by rw [HTK.out, if_pos HP.out, List.length_append, ints_snoc]; exact HO1.out, (HBA.out.alloc (by have := HB.out.size; simp; omega) _).grown HG.out (by have := HB.out.size; simp; omega) (fun j e => (HOA.out.lt j e).1)⟩
        case measure => simp [intOf]; omega
      · have hq : (x.node == node) = false := by simpa using hp
        have HP : Hid (¬ (decide (x.node = node) = true)) := Lib.hid (by simpa using hp)
        clear hp
        go_wp2
        go_roundw
        case rel => exact ⟨k + 1, by omega, by go_num, by rw [HTK.out, if_neg HP.out, List.append_nil]; exact HOA.out, HBA.out⟩
        case measure => simp [intOf]; omega
    · have e : k = n := by omega
      subst e
      have ho := HO.out
      rw [List.take_of_length_le (by rw [HL.out]; exact Nat.le_refl _)] at ho
      obtain ⟨A', c', rfl, hrd⟩ := own_rd ho
      have HR := Lib.hid hrd
      clear ho hrd
      go_wp2
      go_ret
      exact ⟨A', c', rfl, HR.out, HB.out⟩
theorem rat_any {w : World} {A : Option Addr} {n c : Nat} {L : List Con} (h : RdT w (· < w.heap.size) 5 Con.cs A n L) (hn : n ≤ 1099511627776) (node : Int) :
    Calls Try.prog 23 #[.slice A n c, .int .i64 node] w fun e w' => ∃ A' c', e = .returned (.slice A' (atL (fun x : Con => decide (x.node = node)) L).length c') ∧ RdS w' (· < w'.heap.size) A' (atL (fun x : Con => decide (x.node = node)) L).length (ints (atL (fun x : Con => decide (x.node = node)) L)) ∧ Below w.heap.size w w' :=
  (rat_own h hn node).mono fun e w' ⟨A', c', h1, h2, h3⟩ => ⟨A', c', h1, h2.mono fun b hb => hb.2, h3⟩

set_option maxRecDepth 100000 in
set_option maxHeartbeats 800000 in
theorem ints_any {w : World} {A A' : Option Addr} {c c' : Nat} {l : List Nat} (h : RdS w (· < w.heap.size) A l.length (ints l)) (h' : RdS w (· < w.heap.size) A' l.length (ints l)) (hn : l.length ≤ 1099511627776) :
    Calls Try.prog 21 #[.slice A l.length c, .slice A' l.length c'] w fun e w' => e = .returned (.bool true) ∧ Below w.heap.size w w' := by
  have H := Lib.hid h
  have H' := Lib.hid h'
  clear h h'
  generalize hm : l.length = n at *
  have HM := Lib.hid hm
  clear hm
  go_enter Try.func21, Try.ntmps21
  go_wp2
  go_loopw [13] (fun i wr => ∃ k : Nat, k ≤ n ∧ i = .int .i64 (k : Nat) ∧ Below w.heap.size w wr) (fun i _ => n - (intOf i).toNat)
  case atStart => exact ⟨0, Nat.zero_le _, rfl, Below.refl _ _⟩
  case round =>
    obtain ⟨k, hk, rfl, hbel⟩ := hrel
    have HB := Lib.hid hbel
    by_cases hlt : k < n
    · obtain ⟨b, o, u, rfl, hb, hu, hc⟩ := (H.out.below hbel).at_ hlt
      obtain ⟨b', o', u', rfl, hb', hu', hc'⟩ := (H'.out.below hbel).at_ hlt
      rw [hu] at hu'
      cases hu'
      obtain ⟨x, hx⟩ := at_lt (l := l) (k := k) (by rw [HM.out]; exact hlt)
      have hu2 : u = .int .i64 (x : Int) := by
        unfold ints at hu
        rw [List.getElem?_map, hx] at hu
        exact (Option.some.inj hu).symm
      subst hu2
      have i1 : (0 : Int) ≤ (k : Int) := by omega
      have i2 : (k : Int) < (n : Int) := by omega
      clear hu hx hbel
      go_wp2
      go_quiet (fail)
      go_wp2
      go_roundw
      case rel => exact ⟨k + 1, by omega, by go_num, belowN HB.out _⟩
      case measure => simp [intOf]; omega
    · have e : k = n := by omega
      subst e
      clear hbel
      go_wp2
      go_ret
      exact ⟨rfl, HB.out⟩
end Go.Proofs.Ytabldmoifkgchaa
