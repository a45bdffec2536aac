/- Plain facts on the demands of a day: which there are, that they are valid, that a lower level loses none. -/
import Derived.Test.YtpeidgfaejnhiaaTskM
namespace Go.Proofs.Ytpeidgfaejnhiaa
open Go.RowKit Go.Maps

section
variable {C : List Con} {S : List Sch} {F : List Fil} {day level f t v : Int}
theorem mem_demsL {d : Dem} : ∀ (l : List Con) (i0 : Nat), d ∈ demsL C S F day level f t v l i0 ↔ ∃ j x, l[j]? = some x ∧ reaV C S F day level ((i0 + j : Nat) : Int) ≠ 0 ∧ d = demAt C F f t v (i0 + j) x
  | [], i0 => by simp [demsL]
  | y :: r, i0 => by
    rw [demsL, List.mem_append, mem_demsL r (i0 + 1)]
    constructor
    · rintro (h | ⟨j, x, h1, h2, h3⟩)
      · split at h
        · cases h
        · rename_i hne
          exact ⟨0, y, rfl, hne, List.mem_singleton.1 h⟩
      · refine ⟨j + 1, x, h1, ?_, ?_⟩
        · rwa [show i0 + (j + 1) = i0 + 1 + j by omega]
        · rw [show i0 + (j + 1) = i0 + 1 + j by omega]; exact h3
    · rintro ⟨j, x, h1, h2, h3⟩
      cases j with
      | zero =>
        have h4 : y = x := by simpa using h1
        subst h4
        rw [Nat.add_zero] at h2 h3
        exact .inl (by rw [if_neg h2]; exact List.mem_singleton.2 h3)
      | succ j =>
        refine .inr ⟨j, x, by simpa using h1, ?_, ?_⟩
        · rwa [show i0 + 1 + j = i0 + (j + 1) by omega]
        · rw [show i0 + 1 + j = i0 + (j + 1) by omega]; exact h3
theorem mem_all {d : Dem} : d ∈ allD C S F day level f t v ↔ ∃ (j : Nat) (x : Con), C[j]? = some x ∧ reaV C S F day level (j : Int) ≠ 0 ∧ d = demAt C F f t v j x := by
  unfold allD
  rw [mem_demsL]
  constructor
  · rintro ⟨j, x, h1, h2, h3⟩
    rw [Nat.zero_add] at h2 h3
    exact ⟨j, x, h1, h2, h3⟩
  · rintro ⟨j, x, h1, h2, h3⟩
    exact ⟨j, x, h1, by rwa [Nat.zero_add], by rwa [Nat.zero_add]⟩
theorem demsL_sorted : ∀ (l : List Con) (i0 : Nat), ((demsL C S F day level f t v l i0).map Dem.con).Pairwise (· < ·) ∧ ∀ d ∈ demsL C S F day level f t v l i0, (i0 : Int) ≤ d.con
  | [], i0 => by simp [demsL]
  | y :: r, i0 => by
    obtain ⟨h1, h2⟩ := demsL_sorted r (i0 + 1)
    rw [demsL]
    split
    · rw [List.nil_append]
      exact ⟨h1, fun d hd => by have := h2 d hd; omega⟩
    · refine ⟨?_, fun d hd => ?_⟩
      · rw [List.singleton_append, List.map_cons, List.pairwise_cons]
        refine ⟨fun a ha => ?_, h1⟩
        obtain ⟨d, hd, rfl⟩ := List.mem_map.1 ha
        have := h2 d hd
        show (i0 : Int) < d.con
        omega
      · rcases List.mem_append.1 hd with hd | hd
        · rw [List.mem_singleton.1 hd]; exact Int.le_refl _
        · have := h2 d hd; omega
theorem all_nodup : ((allD C S F day level f t v).map Dem.con).Nodup := by
  refine List.Pairwise.imp ?_ (demsL_sorted C 0).1
  intro a b h
  omega
theorem demsL_append : ∀ (a b : List Con) (i0 : Nat), demsL C S F day level f t v (a ++ b) i0 = demsL C S F day level f t v a i0 ++ demsL C S F day level f t v b (i0 + a.length)
  | [], b, i0 => by simp [demsL]
  | y :: r, b, i0 => by
    rw [List.cons_append, demsL, demsL_append r b (i0 + 1), demsL, List.append_assoc, List.length_cons, show i0 + (r.length + 1) = i0 + 1 + r.length by omega]
/-- the demand that comes next behind those of the first i containers -/
theorem next_is {i : Nat} {x : Con} (hx : C[i]? = some x) (h : reaV C S F day level (i : Int) ≠ 0) : (allD C S F day level f t v)[(dk C S F day level f t v i).length]? = some (demAt C F f t v i x) := by
  have hi := (List.getElem?_eq_some_iff.1 hx).1
  have hk : (C.take i).length = i := by rw [List.length_take]; omega
  have e : allD C S F day level f t v = dk C S F day level f t v i ++ demsL C S F day level f t v (C.drop i) i := by
    unfold allD dk
    have := demsL_append (S := S) (F := F) (day := day) (level := level) (f := f) (t := t) (v := v) (C := C) (C.take i) (C.drop i) 0
    rw [List.take_append_drop, Nat.zero_add, hk] at this
    exact this
  have e2 : C.drop i = x :: C.drop (i + 1) := by
    rw [List.drop_eq_getElem_cons hi]
    rw [List.getElem?_eq_getElem hi] at hx
    rw [Option.some.inj hx]
  rw [e, List.getElem?_append_right (Nat.le_refl _), Nat.sub_self, e2, demsL, if_neg h]
  rfl
theorem next_not {i : Nat} {x : Con} (hx : C[i]? = some x) (h : reaV C S F day level (i : Int) = 0) {d : Dem} (hd : (allD C S F day level f t v)[(dk C S F day level f t v i).length]? = some d) : d.con ≠ (i : Int) := by
  have hi := (List.getElem?_eq_some_iff.1 hx).1
  have hk : (C.take i).length = i := by rw [List.length_take]; omega
  have e : allD C S F day level f t v = dk C S F day level f t v i ++ demsL C S F day level f t v (C.drop i) i := by
    unfold allD dk
    have := demsL_append (S := S) (F := F) (day := day) (level := level) (f := f) (t := t) (v := v) (C := C) (C.take i) (C.drop i) 0
    rw [List.take_append_drop, Nat.zero_add, hk] at this
    exact this
  have e2 : C.drop i = x :: C.drop (i + 1) := by
    rw [List.drop_eq_getElem_cons hi]
    rw [List.getElem?_eq_getElem hi] at hx
    rw [Option.some.inj hx]
  rw [e, List.getElem?_append_right (Nat.le_refl _), Nat.sub_self, e2, demsL, if_pos h, List.nil_append] at hd
  have := (demsL_sorted (S := S) (F := F) (day := day) (level := level) (f := f) (t := t) (v := v) (C := C) (C.drop (i + 1)) (i + 1)).2 d (List.mem_of_getElem? hd)
  omega
theorem mak_zero (h : makE C S F day level f t v = 0) : tskE C S F day level = 0 ∧ ¬ winP f t v ∧ (allD C S F day level f t v).length ≤ 32 ∧ makL C S F day level f t v = allD C S F day level f t v := by
  by_cases h0 : tskE C S F day level = 0
  · by_cases hw : winP f t v
    · rw [(mak_w h0 hw).1] at h; cases h
    · by_cases hn : 32 < (allD C S F day level f t v).length
      · rw [(mak_n h0 hw hn).1] at h; cases h
      · exact ⟨h0, hw, by omega, (mak_ok h0 hw hn).2⟩
  · rw [(mak_e h0).1] at h; exact absurd h h0
theorem mak_nz (h : makE C S F day level f t v ≠ 0) : makL C S F day level f t v = [] := if_neg h
theorem rea_nz {i : Int} : reaV C S F day level i ≠ 0 ↔ dueA S i day = true ∨ fullB C F level i = true := by
  unfold reaV
  cases dueA S i day <;> cases fullB C F level i <;> simp
theorem filI_at (hnd : (F.map Fil.con).Nodup) {k : Nat} {x : Fil} (hx : F[k]? = some x) : filI F x.con = (k : Int) := idxV_hit (fun y hy => by
  obtain ⟨j, hj⟩ := List.getElem?_of_mem hy
  have hjk : j < k := by
    rcases Nat.lt_or_ge j k with h4 | h4
    · exact h4
    · rw [List.getElem?_eq_none (by rw [List.length_take]; omega)] at hj; cases hj
  rw [List.getElem?_take_of_lt hjk] at hj
  have hkc : (F.map Fil.con)[k]? = some x.con := by simp [hx]
  rw [decide_eq_false_iff_not]
  intro e
  exact nod_not hkc (List.mem_of_getElem? (i := j) (by rw [List.getElem?_take_of_lt hjk]; simp [hj, e])) hnd) hx (by simp)
theorem fil_known (hnd : (F.map Fil.con).Nodup) {k : Nat} {x : Fil} (hx : F[k]? = some x) : knownB F x.con = true ∧ massV C F x.con = x.hi := by
  have h := filI_at hnd hx
  refine ⟨by unfold knownB; rw [h, decide_eq_false (by omega)]; rfl, ?_⟩
  unfold massV
  rw [h, if_neg (by omega)]
  unfold hiAt
  rw [Int.toNat_natCast, hx]
theorem fil_unknown {i : Int} (h : ∀ x ∈ F, x.con ≠ i) : knownB F i = false ∧ massV C F i = grAt C i := by
  have e : filI F i = -1 := idxV_miss (fun y hy => by simpa using h y hy)
  exact ⟨by unfold knownB; rw [e]; rfl, by unfold massV; rw [if_pos e]⟩
theorem mass_bd (h : tskE C S F day level = 0) {i : Nat} {x : Con} (hx : C[i]? = some x) : 0 ≤ massV C F i ∧ massV C F i ≤ x.gr := by
  obtain ⟨hc, _, hf, _⟩ := tsk_zero h
  obtain ⟨hnd, hfo⟩ := fil_ok hf
  obtain ⟨_, _, g1, _⟩ := con_ok hc (List.mem_of_getElem? hx)
  by_cases hk : ∀ y ∈ F, y.con ≠ (i : Int)
  · rw [(fil_unknown (C := C) hk).2, grAt_is hx]; omega
  · obtain ⟨y, hy, hyi⟩ : ∃ y ∈ F, y.con = (i : Int) := by
      refine Classical.byContradiction fun hn => hk fun y hy e => hn ⟨y, hy, e⟩
    obtain ⟨k, hk2⟩ := List.getElem?_of_mem hy
    have := (fil_known (C := C) hnd hk2).2
    rw [hyi] at this
    rw [this]
    obtain ⟨_, _, f3, f4, f5⟩ := hfo y hy
    rw [hyi, grAt_is hx] at f5
    omega
theorem levV_mono {g a b : Int} (h1 : levE g a = 0) (h2 : levE g b = 0) (h : a ≤ b) : levV g a ≤ levV g b := by
  have h3 : ¬ levB g a := fun hb => by unfold levE at h1; rw [if_pos hb] at h1; cases h1
  have h4 : ¬ levB g b := fun hb => by unfold levE at h2; rw [if_pos hb] at h2; cases h2
  rw [show levV g a = min ((a * 1000 + g - 1) / g) 1000 from if_neg h3, show levV g b = min ((b * 1000 + g - 1) / g) 1000 from if_neg h4]
  unfold levB at h3
  have : (a * 1000 + g - 1) / g ≤ (b * 1000 + g - 1) / g := Int.ediv_le_ediv (by omega) (by omega)
  omega
theorem levE_in {g a : Int} (h1 : 1 ≤ g) (h2 : g ≤ 1073741824) (h3 : 0 ≤ a) (h4 : a ≤ 1073741824) : levE g a = 0 := if_neg (by unfold levB; omega)
/-- a container whose true mass, within its fill, has reached the level is full -/
theorem full_of (h : tskE C S F day level = 0) {i k : Nat} {x : Con} {y : Fil} {mass : Int} (hx : C[i]? = some x) (hy : F[k]? = some y) (hyi : y.con = (i : Int)) (h1 : levE x.gr mass = 0) (h2 : level ≤ levV x.gr mass) (h3 : mass ≤ y.hi) : fullB C F level i = true := by
  obtain ⟨hc, _, hf, _⟩ := tsk_zero h
  obtain ⟨hnd, hfo⟩ := fil_ok hf
  obtain ⟨_, _, g1, g2, _⟩ := con_ok hc (List.mem_of_getElem? hx)
  obtain ⟨_, _, f3, f4, f5⟩ := hfo y (List.mem_of_getElem? hy)
  rw [hyi, grAt_is hx] at f5
  obtain ⟨hk, hm⟩ := fil_known (C := C) hnd hy
  rw [hyi] at hk hm
  have e0 := levE_in g1 g2 (by omega : 0 ≤ y.hi) (by omega)
  have := levV_mono h1 e0 h3
  rw [full_known hk (grAt_is hx) hm rfl e0]
  simp
  omega
theorem rea_lower {level' : Int} {i : Int} (h : reaV C S F day level i ≠ 0) (hl : level' ≤ level) : reaV C S F day level' i ≠ 0 := by
  rw [rea_nz] at h ⊢
  rcases h with h | h
  · exact .inl h
  · refine .inr ?_
    unfold fullB at h ⊢
    simp at h ⊢
    exact ⟨h.1, h.2.1, by omega⟩
theorem listed_is {i : Nat} {x : Con} (hx : C[i]? = some x) (h : reaV C S F day level (i : Int) ≠ 0) : ((allD C S F day level f t v).any fun d => decide (d.con = (i : Int))) = true :=
  List.any_eq_true.2 ⟨demAt C F f t v i x, mem_all.2 ⟨i, x, hx, h, rfl⟩, by simp [demAt]⟩

/-! ### the demands are valid -/
theorem dem_in (h : makE C S F day level f t v = 0) {d : Dem} (hd : d ∈ allD C S F day level f t v) : ∃ (j : Nat) (x : Con), d.con = (j : Int) ∧ C[j]? = some x ∧ j < 256 ∧ d.node = x.node ∧ d.kind = x.kind ∧ d.gr ≤ x.gr ∧ d.from_ = f ∧ d.to_ = t ∧ d.serv = v ∧ 0 ≤ d.node ∧ d.node < 64 ∧ 0 ≤ d.kind ∧ d.kind < 16 ∧ 0 ≤ d.gr ∧ d.gr ≤ 1073741824 := by
  obtain ⟨h0, hw, _, _⟩ := mak_zero h
  obtain ⟨j, x, hx, _, rfl⟩ := mem_all.1 hd
  obtain ⟨k1, k2, g1, g2, n1, n2⟩ := con_ok (tsk_zero h0).1 (List.mem_of_getElem? hx)
  have hl := con_len (tsk_zero h0).1
  have hj := (List.getElem?_eq_some_iff.1 hx).1
  obtain ⟨m1, m2⟩ := mass_bd h0 hx
  refine ⟨j, x, rfl, hx, by omega, rfl, rfl, m2, rfl, rfl, rfl, n1, n2, k1, k2, m1, ?_⟩
  show massV C F j ≤ 1073741824
  omega
end
theorem firstE_mem {l : List Int} (h : firstE l ≠ 0) : firstE l ∈ l := by
  induction l with
  | nil => exact absurd rfl h
  | cons x r ih =>
    unfold firstE at h ⊢
    split
    · rename_i hx
      rw [if_pos hx] at h
      exact List.mem_cons_of_mem _ (ih h)
    · exact List.mem_cons_self ..
def mxL (g : Dem → Int) (l : List Dem) : Int := l.foldl (fun a d => max a (g d + 1)) 0
theorem mxL_snoc (g : Dem → Int) (l : List Dem) (d : Dem) : mxL g (l ++ [d]) = max (mxL g l) (g d + 1) := by unfold mxL; rw [List.foldl_append]; rfl
theorem mxL_bd (g : Dem → Int) : ∀ (n : Nat) (l : List Dem), l.length = n → 0 ≤ mxL g l ∧ (∀ d ∈ l, g d < mxL g l) ∧ ((∀ d ∈ l, 0 ≤ g d) → l ≠ [] → ∃ d ∈ l, g d + 1 = mxL g l)
  | 0, l, h => by
    have : l = [] := List.eq_nil_of_length_eq_zero h
    subst this
    exact ⟨Int.le_refl _, by simp, fun _ h => absurd rfl h⟩
  | n + 1, l, h => by
    obtain ⟨r, d, rfl⟩ : ∃ r d, l = r ++ [d] := by
      have hne : l ≠ [] := by intro e; subst e; simp at h
      exact ⟨l.dropLast, l.getLast hne, (List.dropLast_concat_getLast hne).symm⟩
    obtain ⟨h1, h2, h3⟩ := mxL_bd g n r (by simpa using h)
    rw [mxL_snoc]
    refine ⟨by omega, fun y hy => ?_, fun hp _ => ?_⟩
    · rcases List.mem_append.1 hy with hy | hy
      · have := h2 y hy; omega
      · rw [List.mem_singleton.1 hy]; omega
    · by_cases hm : mxL g r ≤ g d + 1
      · exact ⟨d, by simp, by omega⟩
      · by_cases hr : r = []
        · subst hr
          have : mxL g [] = 0 := rfl
          have := hp d (by simp)
          omega
        · obtain ⟨y, hy, e⟩ := h3 (fun y hy => hp y (List.mem_append_left _ hy)) hr
          exact ⟨y, List.mem_append_left _ hy, by omega⟩
section
variable {C : List Con} {S : List Sch} {F : List Fil} {day level f t v : Int}
theorem dem1_not (h : makE C S F day level f t v = 0) {d : Dem} (hd : d ∈ allD C S F day level f t v) : ¬ (d.gr < 0 ∨ 1073741824 < d.gr ∨ d.from_ < 0 ∨ d.to_ < d.from_ ∨ 86400 < d.to_ ∨ d.serv < 0 ∨ 3600 < d.serv) := by
  obtain ⟨_, hw, _, _⟩ := mak_zero h
  unfold winP at hw
  obtain ⟨j, x, _, _, _, _, _, _, e1, e2, e3, _, _, _, _, g1, g2⟩ := dem_in h hd
  rw [e1, e2, e3]
  omega
theorem dems_ok (h : makE C S F day level f t v = 0) : demsE (allD C S F day level f t v) (mxL Dem.node (allD C S F day level f t v)) (mxL Dem.kind (allD C S F day level f t v)) = 0 := by
  obtain ⟨_, _, h32, _⟩ := mak_zero h
  have hz : firstE ((allD C S F day level f t v).map (demE · (mxL Dem.node (allD C S F day level f t v)) (mxL Dem.kind (allD C S F day level f t v)))) = 0 := by
    rw [firstE_zero_iff]
    intro e he
    obtain ⟨d, hd, rfl⟩ := List.mem_map.1 he
    have h1 := (mxL_bd Dem.node _ _ rfl).2.1 d hd
    have h2 := (mxL_bd Dem.kind _ _ rfl).2.1 d hd
    obtain ⟨j, x, ec, _, hj, _, _, _, _, _, _, n1, _, k1, _⟩ := dem_in h hd
    unfold demE
    rw [if_neg (by rw [ec]; omega), if_neg (dem1_not h hd)]
  unfold demsE
  rw [if_neg (by omega), if_neg (by rw [hz]; decide), if_pos all_nodup]
theorem dems_less (h : makE C S F day level f t v = 0) (hne : allD C S F day level f t v ≠ []) : demsE (allD C S F day level f t v) (mxL Dem.node (allD C S F day level f t v) - 1) (mxL Dem.kind (allD C S F day level f t v)) = 7 := by
  obtain ⟨_, _, h32, _⟩ := mak_zero h
  obtain ⟨d, hd, he⟩ := (mxL_bd Dem.node _ _ rfl).2.2 (fun d hd => by obtain ⟨_, _, _, _, _, _, _, _, _, _, _, n1, _⟩ := dem_in h hd; exact n1) hne
  have h07 : ∀ d ∈ allD C S F day level f t v, demE d (mxL Dem.node (allD C S F day level f t v) - 1) (mxL Dem.kind (allD C S F day level f t v)) = 0 ∨ demE d (mxL Dem.node (allD C S F day level f t v) - 1) (mxL Dem.kind (allD C S F day level f t v)) = 7 := by
    intro d hd
    unfold demE
    split
    · exact .inr rfl
    · rw [if_neg (dem1_not h hd)]; exact .inl rfl
  have hd7 : demE d (mxL Dem.node (allD C S F day level f t v) - 1) (mxL Dem.kind (allD C S F day level f t v)) = 7 := by
    unfold demE
    rw [if_pos (by omega)]
  have hz : firstE ((allD C S F day level f t v).map (demE · (mxL Dem.node (allD C S F day level f t v) - 1) (mxL Dem.kind (allD C S F day level f t v)))) ≠ 0 := by
    rw [Ne, firstE_zero_iff]
    intro hall
    have := hall _ (List.mem_map.2 ⟨d, hd, rfl⟩)
    rw [hd7] at this
    cases this
  unfold demsE
  rw [if_neg (by omega), if_pos hz]
  obtain ⟨y, hy, ey⟩ := List.mem_map.1 (firstE_mem hz)
  rw [← ey] at hz ⊢
  rcases h07 y hy with h0 | h7
  · exact absurd h0 hz
  · exact h7
/-- whether one of the first k fills says that a container has reached the level -/
def fulN (C : List Con) (F : List Fil) (level i g : Int) (k : Nat) : Bool := (F.take k).any fun y => decide (y.con = i) && (decide (levE g y.hi = 0) && decide (level ≤ levV g y.hi))
theorem fulN_all (h : tskE C S F day level = 0) {i : Nat} {x : Con} (hx : C[i]? = some x) {n : Nat} (hn : F.length = n) : fulN C F level i x.gr n = fullB C F level i := by
  unfold fulN
  rw [List.take_of_length_le (by omega)]
  obtain ⟨hc, _, hf, _⟩ := tsk_zero h
  obtain ⟨hnd, hfo⟩ := fil_ok hf
  by_cases hk : ∀ y ∈ F, y.con ≠ (i : Int)
  · rw [full_not (fil_unknown (C := C) hk).1, List.any_eq_false]
    intro y hy
    have := hk y hy
    simp [this]
  · obtain ⟨y, hy, hyi⟩ : ∃ y ∈ F, y.con = (i : Int) := by
      refine Classical.byContradiction fun hn => hk fun y hy e => hn ⟨y, hy, e⟩
    obtain ⟨k, hk2⟩ := List.getElem?_of_mem hy
    obtain ⟨h1, h2⟩ := fil_known (C := C) hnd hk2
    rw [hyi] at h1 h2
    rw [full_known h1 (grAt_is hx) h2 rfl rfl]
    cases hb : (decide (levE x.gr y.hi = 0) && decide (level ≤ levV x.gr y.hi))
    · rw [List.any_eq_false]
      intro z hz e
      simp at e
      have hzy : z = y := by
        obtain ⟨k', hk3⟩ := List.getElem?_of_mem hz
        have e1 := filI_at hnd hk3
        have e2 := filI_at hnd hk2
        rw [e.1] at e1
        rw [hyi] at e2
        have : k = k' := by omega
        subst this
        exact Option.some.inj (hk3.symm.trans hk2)
      subst hzy
      simp at hb
      have := hb e.2.1
      omega
    · exact List.any_eq_true.2 ⟨y, hy, by rw [hb, hyi]; simp⟩
theorem fulN_step {i g : Int} {k : Nat} {y : Fil} (hy : F[k]? = some y) : fulN C F level i g (k + 1) = (fulN C F level i g k || (decide (y.con = i) && (decide (levE g y.hi = 0) && decide (level ≤ levV g y.hi)))) := any_take hy
end
end Go.Proofs.Ytpeidgfaejnhiaa
