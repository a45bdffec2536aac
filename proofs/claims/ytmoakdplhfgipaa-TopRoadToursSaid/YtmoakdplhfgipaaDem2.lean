/- Demands: what the functions compute in plain Lean, and the contracts of demand.within, one, Check and of the reference's Check. -/
import Derived.Test.YtmoakdplhfgipaaVehC
import Derived.Test.YtmoakdplhfgipaaListsB
import Derived.Shelf.Abstract
import Derived.Deep.QuietTactic
import Derived.BigQuiet
import Derived.Deep.RegionWith
import Derived.Deep.RegionHeld3
import Derived.Deep.DrawnRows
import Derived.Deep.DeepCutAuto
namespace Go.Proofs.Ytmoakdplhfgipaa
set_option maxRecDepth 20000
open Go.RowKit Go.Maps

structure Dem where
  con : Int
  node : Int
  kind : Int
  gr : Int
  from_ : Int
  to_ : Int
  serv : Int
def Dem.cs (x : Dem) : List Value := [.int .i64 x.con, .int .i64 x.node, .int .i64 x.kind, .int .i64 x.gr, .int .i64 x.from_, .int .i64 x.to_, .int .i64 x.serv]
abbrev Dem.vs (x : Dem) : Array Value := #[.int .i64 x.con, .int .i64 x.node, .int .i64 x.kind, .int .i64 x.gr, .int .i64 x.from_, .int .i64 x.to_, .int .i64 x.serv]
/-- the error of a demand -/
def demE (x : Dem) (n m : Int) : Int :=
  if x.con < 0 ∨ 256 ≤ x.con ∨ x.node < 0 ∨ n ≤ x.node ∨ x.kind < 0 ∨ m ≤ x.kind then 7
  else if x.gr < 0 ∨ 1073741824 < x.gr ∨ x.from_ < 0 ∨ x.to_ < x.from_ ∨ 86400 < x.to_ ∨ x.serv < 0 ∨ 3600 < x.serv then 1 else 0
/-- the error of demands -/
def demsE (L : List Dem) (n m : Int) : Int :=
  if 32 < L.length then 8 else if firstE (L.map (demE · n m)) ≠ 0 then firstE (L.map (demE · n m)) else if (L.map Dem.con).Nodup then 0 else 6
theorem bthen {B : Nat} {w w1 w2 : World} (h : Below B w w1) (h2 : Below w1.heap.size w1 w2) (hB : B ≤ w1.heap.size) : Below B w w2 := h.trans (h2.mono hB)

theorem nod_step {l : List Int} {j : Nat} {x : Int} (h : (l.take j).Nodup) (hx : l[j]? = some x) (hn : x ∉ l.take j) : (l.take (j + 1)).Nodup := by
  rw [List.take_add_one, hx, List.nodup_append]
  exact ⟨h, by simp, by intro a ha b hb e; simp at hb; subst hb; subst e; exact hn ha⟩
theorem nod_not {l : List Int} {j : Nat} {x : Int} (hx : l[j]? = some x) (hm : x ∈ l.take j) : ¬ l.Nodup := by
  intro hnod
  have h2 : (l.take (j + 1)).Nodup := hnod.sublist (List.take_sublist _ _)
  rw [List.take_add_one, hx, List.nodup_append] at h2
  exact h2.2.2 _ hm _ (by simp) rfl

def witB (n lo hi : Int) : Bool := decide (lo ≤ n) && decide (n ≤ hi)
theorem witB_true {n lo hi : Int} (h : lo ≤ n ∧ n ≤ hi) : witB n lo hi = true := by simp [witB, h]
theorem witB_false {n lo hi : Int} (h : ¬ (lo ≤ n ∧ n ≤ hi)) : witB n lo hi = false := by
  cases e : witB n lo hi
  · rfl
  · simp [witB] at e; exact absurd e h
theorem witB_iff {n lo hi : Int} : witB n lo hi = true ↔ lo ≤ n ∧ n ≤ hi := by simp [witB]
set_option maxHeartbeats 400000 in
theorem within_any (n lo hi : Int) (w : World) : Calls Try.prog 61 #[.int .i64 n, .int .i64 lo, .int .i64 hi] w fun e w' => e = .returned (.bool (witB n lo hi)) ∧ w = w' := by
  by_cases h1 : lo ≤ n <;> by_cases h2 : n ≤ hi
  all_goals
    go_enter Try.func61, Try.ntmps61
    go_wp2
    go_ret
    exact ⟨ret_bool (by first | exact (witB_true ⟨by omega, by omega⟩).symm | exact (witB_false (by omega)).symm), rfl⟩
theorem within_val {b : Bool} {n lo hi : Int} (h : witB n lo hi = b) (w : World) : Calls Try.prog 61 #[.int .i64 n, .int .i64 lo, .int .i64 hi] w fun e w' => e = .returned (.bool b) ∧ w = w' := by rw [← h]; exact within_any n lo hi w

theorem RdT.take {α : Type} {w : World} {S : Nat → Prop} {size : Nat} {cs : α → List Value} {A : Option Addr} {n j : Nat} {L : List α} (h : RdT w S size cs A n L) (hj : j ≤ n) : RdT w S size cs A j (L.take j) :=
  ⟨by rw [List.length_take, h.1]; omega, fun h0 => by
    obtain ⟨b, o, e, hb, hc⟩ := h.2 (by omega)
    refine ⟨b, o, e, hb, fun i x hx k u hu => hc i x ?_ k u hu⟩
    have hij : i < j := by
      rcases Nat.lt_or_ge i j with h1 | h1
      · exact h1
      · rw [List.getElem?_eq_none (by rw [List.length_take]; omega)] at hx; cases hx
    rwa [List.getElem?_take_of_lt hij] at hx⟩
theorem anyV {α : Type} (p : α → Bool) (L : List α) : L.any p = !decide (idxV p L = -1) := by
  rcases idxV_cases p L with h | ⟨i, h, hi, x, hx, hp, _⟩
  · rw [h]
    have : L.findIdx? p = none := by
      unfold idxV at h
      cases e : L.findIdx? p with
      | none => rfl
      | some j => rw [e] at h; simp at h
    rw [List.findIdx?_eq_none_iff] at this
    simp
    intro x hx
    simpa using this x hx
  · rw [h, decide_eq_false (by omega)]
    simp
    exact ⟨x, List.mem_of_getElem? hx, hp⟩

set_option maxRecDepth 100000 in
set_option maxHeartbeats 800000 in
theorem index_dem {w : World} {A : Option Addr} {n c g : Nat} {L : List Dem} {lb : Array Value} {p : Dem → Bool} (h : RdT w (· < w.heap.size) 7 Dem.cs A n L) (hn : n ≤ maxLen) (eg : ∀ args w, (callFunc g args).run Try.prog w = .ok (.enter g args) w)
    (hg : ∀ x ∈ L, ∀ W, Below w.heap.size w W → Calls Try.prog g (#[.agg x.vs] ++ lb) W fun e w' => e = .returned (.bool (p x)) ∧ Below W.heap.size W w') :
    Calls Try.prog 62 #[.slice A n c, .func (.func g) #[] lb] w fun e w' => e = .returned (.int .i64 (idxV p L)) ∧ Below w.heap.size w w' := by
  have hlen : L.length = n := h.1
  unfold maxLen at hn
  have HL := Lib.hid hlen
  have H := Lib.hid h
  have HG := Lib.hid hg
  clear h hlen hg
  go_enter Try.func62, Try.ntmps62
  go_wp2
  go_loopw [8] (fun i wr => ∃ k : Nat, k ≤ n ∧ i = .int .i64 (k : Nat) ∧ (∀ y ∈ L.take k, p y = false) ∧ Below w.heap.size w wr) (fun i _ => n - (intOf i).toNat)
  case atStart => exact ⟨0, Nat.zero_le _, rfl, by simp, Below.refl _ _⟩
  case round =>
    obtain ⟨k, hk, rfl, hE, hbel⟩ := hrel
    have HE := Lib.hid hE
    have HB := Lib.hid hbel
    clear hE hbel
    by_cases hlt : k < n
    · obtain ⟨x, hx⟩ := at_lt (l := L) (k := k) (by rw [HL.out]; exact hlt)
      obtain ⟨b, o, rfl, hb, hc⟩ := H.out.2 (by omega)
      have hcx := (H.out.cells_ hlt hx HB.out).2
      have c0 := hcx 0 _ rfl
      rw [Nat.add_zero] at c0
      have c1 := hcx 1 _ rfl
      have c2 := hcx 2 _ rfl
      have c3 := hcx 3 _ rfl
      have c4 := hcx 4 _ rfl
      have c5 := hcx 5 _ rfl
      have c6 := hcx 6 _ rfl
      clear hcx hc
      have HC := Lib.hid (HG.out x (List.mem_of_getElem? hx) wr HB.out)
      have HX := Lib.hid hx
      clear hx
      cases hp : p x
      · have HP := Lib.hid hp
        clear hp
        go_wp2_with (go_at_fn g; refine HC.out.mono ?_; rw [HP.out]; rintro e w1 ⟨rfl, hb1⟩; have HB1 := Lib.hid (HB.out.trans (hb1.mono HB.out.size)); clear hb1)
        go_roundw
        case rel => exact ⟨k + 1, by omega, by go_num, take_all HE.out HX.out HP.out, HB1.out⟩
        case measure => simp [intOf]; omega
      · have HP := Lib.hid hp
        clear hp
        go_wp2_with (go_at_fn g; refine HC.out.mono ?_; rw [HP.out]; rintro e w1 ⟨rfl, hb1⟩; have HB1 := Lib.hid (HB.out.trans (hb1.mono HB.out.size)); clear hb1)
        go_ret
        exact ⟨ret_int (idxV_hit HE.out HX.out HP.out).symm, HB1.out⟩
    · have e : k = n := by omega
      subst e
      have HE0 : Hid (idxV p L = -1) := Lib.hid (idxV_miss (by have := HE.out; rwa [List.take_of_length_le (by rw [HL.out]; exact Nat.le_refl _)] at this))
      go_wp2
      go_ret
      exact ⟨ret_int HE0.out.symm, HB.out⟩

set_option maxHeartbeats 800000 in
theorem contains_dem {w : World} {A : Option Addr} {n c g : Nat} {L : List Dem} {lb : Array Value} {p : Dem → Bool} (h : RdT w (· < w.heap.size) 7 Dem.cs A n L) (hn : n ≤ maxLen) (eg : ∀ args w, (callFunc g args).run Try.prog w = .ok (.enter g args) w)
    (hg : ∀ x ∈ L, ∀ W, Below w.heap.size w W → Calls Try.prog g (#[.agg x.vs] ++ lb) W fun e w' => e = .returned (.bool (p x)) ∧ Below W.heap.size W w') :
    Calls Try.prog 48 #[.slice A n c, .func (.func g) #[] lb] w fun e w' => e = .returned (.bool (L.any p)) ∧ Below w.heap.size w w' := by
  have HI := Lib.hid (index_dem (c := c) h hn eg hg)
  clear h hg hn
  rcases idxV_cases p L with hv | ⟨i, hv, hi, _⟩
  · have HA : Hid (L.any p = false) := Lib.hid (by rw [anyV, hv]; rfl)
    have HV := Lib.hid hv
    clear hv
    go_enter Try.func48, Try.ntmps48
    go_wp2_with fail
    refine HI.out.mono ?_
    rw [HV.out]
    rintro e w1 ⟨rfl, hb1⟩
    have HB1 := Lib.hid hb1
    clear hb1
    go_wp2
    go_ret
    exact ⟨ret_bool HA.out.symm, HB1.out⟩
  · have HA : Hid (L.any p = true) := Lib.hid (by rw [anyV, hv, decide_eq_false (by omega)]; rfl)
    have HV := Lib.hid hv
    clear hv
    have i0 : ¬ ((i : Int) < 0) := by omega
    go_enter Try.func48, Try.ntmps48
    go_wp2_with fail
    refine HI.out.mono ?_
    rw [HV.out]
    rintro e w1 ⟨rfl, hb1⟩
    have HB1 := Lib.hid hb1
    clear hb1
    go_wp2
    all_goals first | (exfalso; omega) | (go_ret; exact ⟨ret_bool HA.out.symm, HB1.out⟩)

def dem7 (x : Dem) (n m : Int) : Prop := x.con < 0 ∨ 256 ≤ x.con ∨ x.node < 0 ∨ n ≤ x.node ∨ x.kind < 0 ∨ m ≤ x.kind
def dem1 (x : Dem) : Prop := x.gr < 0 ∨ 1073741824 < x.gr ∨ x.from_ < 0 ∨ x.to_ < x.from_ ∨ 86400 < x.to_ ∨ x.serv < 0 ∨ 3600 < x.serv
theorem demE_7 {x : Dem} {n m : Int} (h : dem7 x n m) : demE x n m = 7 := if_pos h
theorem demE_1 {x : Dem} {n m : Int} (h : ¬ dem7 x n m) (h1 : dem1 x) : demE x n m = 1 := (if_neg h).trans (if_pos h1)
theorem demE_0 {x : Dem} {n m : Int} (h : ¬ dem7 x n m) (h1 : ¬ dem1 x) : demE x n m = 0 := (if_neg h).trans (if_neg h1)

set_option maxRecDepth 100000 in
set_option maxHeartbeats 3200000 in
theorem one_any (x : Dem) (n m : Int) (w : World) :
    Calls Try.prog 47 #[.agg x.vs, .int .i64 n, .int .i64 m] w fun e w' => e = .returned (.int .i64 (demE x n m)) ∧ w' = w.alloc (.cells x.vs 72) := by
  by_cases h7 : dem7 x n m
  · rw [demE_7 h7]
    unfold dem7 at h7
    obtain ⟨con, node, kind, gr, fr, to_, serv⟩ := x
    simp only at h7 ⊢
    cases ha : witB con 0 255
    · have HA := Lib.hid ha
      clear ha h7
      go_enter Try.func47, Try.ntmps47
      go_wp2_with (go_at_call 61; ((with_reducible refine (within_val HA.out _).mono ?_); rintro e w' ⟨rfl, rfl⟩))
      all_goals first | (exfalso; omega) | (go_ret; exact ⟨rfl, rfl⟩)
    · have HA := Lib.hid ha
      have ha' := witB_iff.1 ha
      have h7' : node < 0 ∨ n ≤ node ∨ kind < 0 ∨ m ≤ kind := by omega
      clear ha h7 ha'
      go_enter Try.func47, Try.ntmps47
      go_wp2_with (go_at_call 61; ((with_reducible refine (within_val HA.out _).mono ?_); rintro e w' ⟨rfl, rfl⟩))
      all_goals first | (exfalso; omega) | (go_ret; exact ⟨rfl, rfl⟩)
  · by_cases h1 : dem1 x
    · rw [demE_1 h7 h1]
      unfold dem7 at h7
      unfold dem1 at h1
      obtain ⟨con, node, kind, gr, fr, to_, serv⟩ := x
      simp only at h7 h1 ⊢
      have HA := Lib.hid (witB_true (n := con) (lo := 0) (hi := 255) ⟨by omega, by omega⟩)
      have n1 : 0 ≤ node := by omega
      have n2 : node < n := by omega
      have n3 : 0 ≤ kind := by omega
      have n4 : kind < m := by omega
      clear h7
      cases hb : witB gr 0 1073741824
      · have HB := Lib.hid hb
        clear hb h1
        go_enter Try.func47, Try.ntmps47
        go_wp2_with (first
          | (go_at_call 61; ((with_reducible refine (within_val HA.out _).mono ?_); rintro e w' ⟨rfl, rfl⟩))
          | (go_at_call 61; ((with_reducible refine (within_val HB.out _).mono ?_); rintro e w' ⟨rfl, rfl⟩)))
        all_goals first | (exfalso; omega) | (go_ret; exact ⟨rfl, rfl⟩)
      · have HB := Lib.hid hb
        have hb' := witB_iff.1 hb
        have h1' : fr < 0 ∨ to_ < fr ∨ 86400 < to_ ∨ serv < 0 ∨ 3600 < serv := by omega
        clear hb h1 hb'
        cases hc : witB serv 0 3600
        · have HC := Lib.hid hc
          clear hc h1'
          go_enter Try.func47, Try.ntmps47
          go_wp2_with (first
            | (go_at_call 61; ((with_reducible refine (within_val HA.out _).mono ?_); rintro e w' ⟨rfl, rfl⟩))
            | (go_at_call 61; ((with_reducible refine (within_val HB.out _).mono ?_); rintro e w' ⟨rfl, rfl⟩))
            | (go_at_call 61; ((with_reducible refine (within_val HC.out _).mono ?_); rintro e w' ⟨rfl, rfl⟩)))
          all_goals first | (exfalso; omega) | (go_ret; exact ⟨rfl, rfl⟩)
        · have HC := Lib.hid hc
          have hc' := witB_iff.1 hc
          have h2 : fr < 0 ∨ to_ < fr ∨ 86400 < to_ := by omega
          clear hc h1' hc'
          go_enter Try.func47, Try.ntmps47
          go_wp2_with (first
            | (go_at_call 61; ((with_reducible refine (within_val HA.out _).mono ?_); rintro e w' ⟨rfl, rfl⟩))
            | (go_at_call 61; ((with_reducible refine (within_val HB.out _).mono ?_); rintro e w' ⟨rfl, rfl⟩))
            | (go_at_call 61; ((with_reducible refine (within_val HC.out _).mono ?_); rintro e w' ⟨rfl, rfl⟩)))
          all_goals first | (exfalso; omega) | (go_ret; exact ⟨rfl, rfl⟩)
    · rw [demE_0 h7 h1]
      unfold dem7 at h7
      unfold dem1 at h1
      obtain ⟨con, node, kind, gr, fr, to_, serv⟩ := x
      simp only at h7 h1 ⊢
      have HA := Lib.hid (witB_true (n := con) (lo := 0) (hi := 255) ⟨by omega, by omega⟩)
      have HB := Lib.hid (witB_true (n := gr) (lo := 0) (hi := 1073741824) ⟨by omega, by omega⟩)
      have HC := Lib.hid (witB_true (n := serv) (lo := 0) (hi := 3600) ⟨by omega, by omega⟩)
      have n1 : 0 ≤ node := by omega
      have n2 : node < n := by omega
      have n3 : 0 ≤ kind := by omega
      have n4 : kind < m := by omega
      have n5 : 0 ≤ fr := by omega
      have n6 : fr ≤ to_ := by omega
      have n7 : to_ ≤ 86400 := by omega
      clear h7 h1
      go_enter Try.func47, Try.ntmps47
      go_wp2_with (first
        | (go_at_call 61; ((with_reducible refine (within_val HA.out _).mono ?_); rintro e w' ⟨rfl, rfl⟩))
        | (go_at_call 61; ((with_reducible refine (within_val HB.out _).mono ?_); rintro e w' ⟨rfl, rfl⟩))
        | (go_at_call 61; ((with_reducible refine (within_val HC.out _).mono ?_); rintro e w' ⟨rfl, rfl⟩)))
      all_goals first | (exfalso; omega) | (go_ret; exact ⟨rfl, rfl⟩)

theorem dems_err {L : List Dem} {k : Nat} {x : Dem} {n m v : Int} (h : ¬ 32 < L.length) (hE : firstE ((L.map (demE · n m)).take k) = 0) (hx : L[k]? = some x) (he : demE x n m = v) (hv : v ≠ 0) : demsE L n m = v := by
  have h1 := firstE_take hE (show (L.map (demE · n m))[k]? = some (demE x n m) by simp [hx])
  have h2 := firstE_stop (l := L.map (demE · n m)) (k := k + 1) (by rw [h1, he]; exact hv)
  unfold demsE
  have e1 : firstE (L.map (demE · n m)) = v := by rw [h2, h1, he]
  rw [if_neg h, if_pos (by rw [e1]; exact hv), e1]
theorem dems_dup {L : List Dem} {n m : Int} (h : ¬ 32 < L.length) (hE : firstE (L.map (demE · n m)) = 0) : demsE L n m = if (L.map Dem.con).Nodup then 0 else 6 := by
  unfold demsE
  rw [if_neg h, if_neg (by rw [hE]; decide)]
theorem any_dcon {F : List Dem} {j : Nat} {x : Int} : ((F.take j).any fun y => decide (y.con = x)) = decide (x ∈ (F.map Dem.con).take j) := by
  rw [← List.map_take]
  by_cases h : x ∈ (F.take j).map Dem.con
  · rw [decide_eq_true h]
    obtain ⟨y, hy, rfl⟩ := List.mem_map.1 h
    exact List.any_eq_true.2 ⟨y, hy, by simp⟩
  · rw [decide_eq_false h]
    rw [List.any_eq_false]
    intro y hy e
    exact h (List.mem_map.2 ⟨y, hy, by simpa using e⟩)
set_option maxHeartbeats 400000 in
theorem same_dcon (x : Dem) (con : Int) (B : Nat) (W : World) (hB : W.cell? ⟨B, 0, none⟩ = some (.int .i64 con)) :
    Calls Try.prog 49 #[.agg x.vs, .pointer (some ⟨B, 0, none⟩)] W fun e w' => e = .returned (.bool (decide (x.con = con))) ∧ w' = W.alloc (.cells x.vs 72) := by
  have hlt : B < W.heap.size := World.block_lt_of_cell? _ _ hB
  have hB' : (W.alloc (.cells x.vs 72)).cell? ⟨B, 0, none⟩ = some (.int .i64 con) := (World.cell?_alloc_lt W _ ⟨B, 0, none⟩ hlt).trans hB
  obtain ⟨c, node, kind, gr, fr, to_, serv⟩ := x
  by_cases h : c = con
  · subst h
    go_enter Try.func49, Try.ntmps49
    go_wp2
    go_ret
    exact ⟨ret_bool (by simp), rfl⟩
  · have he : (c == con) = false := by simpa using h
    have H := Lib.hid h
    clear h
    go_enter Try.func49, Try.ntmps49
    go_wp2
    go_ret
    exact ⟨ret_bool (by simp [H.out]), rfl⟩
theorem containsd_val {b : Bool} {w : World} {A : Option Addr} {n c : Nat} {L : List Dem} {con : Int} {B : Nat} (hb : (L.any fun y => decide (y.con = con)) = b) (h : RdT w (· < w.heap.size) 7 Dem.cs A n L) (hn : n ≤ maxLen) (hB : w.cell? ⟨B, 0, none⟩ = some (.int .i64 con)) :
    Calls Try.prog 48 #[.slice A n c, .func (.func 49) #[] #[.pointer (some ⟨B, 0, none⟩)]] w fun e w' => e = .returned (.bool b) ∧ Below w.heap.size w w' := by
  rw [← hb]
  have hlt : B < w.heap.size := World.block_lt_of_cell? _ _ hB
  exact contains_dem h hn (enters_of Try.func49 (by kernel_rfl) rfl) fun x _ W hW =>
    (same_dcon x con B W ((hW.cell (p := ⟨B, 0, none⟩) hlt).trans hB)).mono fun e w' ⟨he, hw⟩ => ⟨he, by rw [hw]; exact (Below.refl _ _).alloc (Nat.le_refl _) _⟩

set_option maxRecDepth 100000 in
set_option maxHeartbeats 3200000 in
theorem dchk_any {w : World} {A : Option Addr} {nL cL : Nat} {L : List Dem} (h : RdT w (· < w.heap.size) 7 Dem.cs A nL L) (hn : nL ≤ maxLen) (hcap : nL ≤ cL) (n m : Int) :
    Calls Try.prog 29 #[.slice A nL cL, .int .i64 n, .int .i64 m] w fun e w' => e = .returned (.int .i64 (demsE L n m)) ∧ Below w.heap.size w w' := by
  have hlen := h.1
  unfold maxLen at hn
  by_cases h256 : 32 < nL
  · have hE : demsE L n m = 8 := if_pos (by rw [hlen]; exact h256)
    rw [hE]
    clear hE h hlen
    go_enter Try.func29, Try.ntmps29
    go_wp2
    go_ret
    exact ⟨rfl, by go_grown⟩
  have H256 : Hid (¬ 32 < L.length) := Lib.hid (by rw [hlen]; exact h256)
  have n32 : nL ≤ 32 := by omega
  have HL := Lib.hid hlen
  have HM := Lib.hid h
  have HE1 : Hid (∀ k x v, firstE ((L.map (demE · n m)).take k) = 0 → L[k]? = some x → demE x n m = v → v ≠ 0 → demsE L n m = v) := Lib.hid fun k p v a b c d => dems_err H256.out a b c d
  have HE2 : Hid (firstE (L.map (demE · n m)) = 0 → demsE L n m = if (L.map Dem.con).Nodup then 0 else 6) := Lib.hid fun a => dems_dup H256.out a
  obtain ⟨E, hEE⟩ : ∃ E, demsE L n m = E := ⟨_, rfl⟩
  rw [hEE] at HE1 HE2 ⊢
  clear h hn hlen h256 H256 hEE
  go_enter Try.func29, Try.ntmps29
  go_wp2
  go_loopw [17] (fun i wr => ∃ k : Nat, k ≤ nL ∧ i = .int .i64 (k : Nat) ∧ firstE ((L.map (demE · n m)).take k) = 0 ∧ Below w.heap.size w wr) (fun i _ => nL - (intOf i).toNat)
  case atStart => exact ⟨0, Nat.zero_le _, rfl, rfl, Below.refl _ _⟩
  case round =>
    obtain ⟨k, hk, rfl, hE, hbel⟩ := hrel
    have HE := Lib.hid hE
    have HB := Lib.hid hbel
    clear hE hbel
    by_cases hlt : k < nL
    · obtain ⟨x, hx⟩ := at_lt (l := L) (k := k) (by rw [HL.out]; exact hlt)
      obtain ⟨b, o, rfl, hb, hc⟩ := HM.out.2 (by omega)
      have hcx := (HM.out.cells_ hlt hx HB.out).2
      have c0 := hcx 0 _ rfl
      rw [Nat.add_zero] at c0
      have c1 := hcx 1 _ rfl
      have c2 := hcx 2 _ rfl
      have c3 := hcx 3 _ rfl
      have c4 := hcx 4 _ rfl
      have c5 := hcx 5 _ rfl
      have c6 := hcx 6 _ rfl
      clear hcx hc
      have HX1 := Lib.hid (firstE_take HE.out (show (L.map (demE · n m))[k]? = some (demE x n m) by simp [hx]))
      have HX := Lib.hid hx
      clear hx
      by_cases he : demE x n m = 0
      · have HC := Lib.hid he
        clear he
        go_wp2_with (go_at_call 47; refine (one_any x n m _).mono ?_; rw [HC.out]; rintro e w' ⟨rfl, rfl⟩)
        go_roundw
        case rel => exact ⟨k + 1, by omega, by go_num, by rw [HX1.out, HC.out], bthen HB.out (by go_grown) HB.out.size⟩
        case measure => simp [intOf]; omega
      · have he2 : (demE x n m != 0) = true := by simpa using he
        have HC := Lib.hid he
        clear he
        go_wp2_with (go_at_call 47; refine (one_any x n m _).mono ?_; rintro e w' ⟨rfl, rfl⟩)
        go_ret
        exact ⟨ret_int (HE1.out k x _ HE.out HX.out rfl HC.out).symm, bthen HB.out (by go_grown) HB.out.size⟩
    · have e : k = nL := by omega
      subst e
      have hE0 : firstE (L.map (demE · n m)) = 0 := by
        have := HE.out
        rwa [List.take_of_length_le (by rw [List.length_map, HL.out]; exact Nat.le_refl _)] at this
      have HE0 := Lib.hid (HE2.out hE0)
      obtain ⟨wo, rfl⟩ : ∃ wo : World, wo = wr := ⟨_, rfl⟩
      clear hE0
      go_wp2
      go_loopw [31] (fun i wx => ∃ j : Nat, j ≤ k ∧ i = .int .i64 (j : Nat) ∧ ((L.map Dem.con).take j).Nodup ∧ Below w.heap.size w wx) (fun i _ => k - (intOf i).toNat)
      case atStart => exact ⟨0, Nat.zero_le _, rfl, List.nodup_nil, HB.out⟩
      case round =>
        obtain ⟨j, hj, rfl, hnd1, hbel⟩ := hrel
        have N1 := Lib.hid hnd1
        have HBL := Lib.hid hbel
        clear hnd1 hbel
        by_cases hlt2 : j < k
        · obtain ⟨x, hx⟩ := at_lt (l := L) (k := j) (by rw [HL.out]; exact hlt2)
          obtain ⟨con, node, kind, gr, fr, to_, serv⟩ := x
          obtain ⟨b, o, rfl, hb, hc⟩ := HM.out.2 (by omega)
          have hcx := (HM.out.cells_ hlt2 hx HBL.out).2
          have c0 := hcx 0 _ rfl
          rw [Nat.add_zero] at c0
          have c1 := hcx 1 _ rfl
          have c2 := hcx 2 _ rfl
          have c3 := hcx 3 _ rfl
          have c4 := hcx 4 _ rfl
          have c5 := hcx 5 _ rfl
          have c6 := hcx 6 _ rfl
          clear hcx hc
          have i1 : Hid ((L.map Dem.con)[j]? = some con) := Lib.hid (by simp [hx])
          have x1 : (0 : Int) ≤ (j : Int) := by omega
          have x2 : (j : Int) ≤ (cL : Int) := by omega
          have HBX : Hid (Below w.heap.size w (wr.alloc (.cells #[.int .i64 con, .int .i64 node, .int .i64 kind, .int .i64 gr, .int .i64 fr, .int .i64 to_, .int .i64 serv] 72))) := Lib.hid (bthen HBL.out (by go_grown) HBL.out.size)
          have HTK := Lib.hid ((HM.out.up HBX.out).take (Nat.le_of_lt hlt2))
          have HNM : Hid (j ≤ maxLen) := Lib.hid (by unfold maxLen; omega)
          have KX : Hid ((wr.alloc (.cells #[.int .i64 con, .int .i64 node, .int .i64 kind, .int .i64 gr, .int .i64 fr, .int .i64 to_, .int .i64 serv] 72)).cell? ⟨wr.heap.size, 0, none⟩ = some (.int .i64 con)) := Lib.hid ((Blk.new wr 72 #[.int .i64 con, .int .i64 node, .int .i64 kind, .int .i64 gr, .int .i64 fr, .int .i64 to_, .int .i64 serv]).cell 0)
          clear hx
          by_cases m1 : con ∈ (L.map Dem.con).take j
          · have M1 := Lib.hid m1
            have MA := Lib.hid (any_dcon.trans (decide_eq_true m1))
            clear m1
            go_wp2_with (go_at_call 48; ((with_reducible refine (containsd_val MA.out HTK.out HNM.out KX.out).mono ?_); rintro e w1 ⟨rfl, hb1⟩; have HB1 := Lib.hid hb1; clear hb1))
            go_ret
            exact ⟨ret_int (by rw [HE0.out, if_neg (fun h => nod_not i1.out M1.out h)]), bthen HBX.out HB1.out HBX.out.size⟩
          · have M1 := Lib.hid m1
            have MA := Lib.hid (any_dcon.trans (decide_eq_false m1))
            clear m1
            go_wp2_with (go_at_call 48; ((with_reducible refine (containsd_val MA.out HTK.out HNM.out KX.out).mono ?_); rintro e w1 ⟨rfl, hb1⟩; have HB1 := Lib.hid hb1; clear hb1))
            go_roundw
            case rel => exact ⟨j + 1, by omega, by go_num, nod_step N1.out i1.out M1.out, bthen HBX.out HB1.out HBX.out.size⟩
            case measure => simp [intOf]; omega
        · have e : j = k := by omega
          subst e
          have hn1 : (L.map Dem.con).Nodup := by
            have := N1.out
            rwa [List.take_of_length_le (by rw [List.length_map, HL.out]; exact Nat.le_refl _)] at this
          have HN := Lib.hid hn1
          clear hn1
          go_wp2
          go_ret
          exact ⟨ret_int (by rw [HE0.out, if_pos HN.out]), HBL.out⟩
set_option maxRecDepth 100000 in
set_option maxHeartbeats 3200000 in
theorem rdchk_any {w : World} {A : Option Addr} {nL cL : Nat} {L : List Dem} (h : RdT w (· < w.heap.size) 7 Dem.cs A nL L) (hn : nL ≤ maxLen) (n m : Int) :
    Calls Try.prog 11 #[.slice A nL cL, .int .i64 n, .int .i64 m] w fun e w' => e = .returned (.int .i64 (demsE L n m)) ∧ Below w.heap.size w w' := by
  have hlen := h.1
  unfold maxLen at hn
  by_cases h256 : 32 < nL
  · have hE : demsE L n m = 8 := if_pos (by rw [hlen]; exact h256)
    rw [hE]
    clear hE h hlen
    go_enter Try.func11, Try.ntmps11
    go_wp2
    go_ret
    exact ⟨rfl, by go_grown⟩
  have H256 : Hid (¬ 32 < L.length) := Lib.hid (by rw [hlen]; exact h256)
  have n32 : nL ≤ 32 := by omega
  have HL := Lib.hid hlen
  have HM := Lib.hid h
  have HE1 : Hid (∀ k x v, firstE ((L.map (demE · n m)).take k) = 0 → L[k]? = some x → demE x n m = v → v ≠ 0 → demsE L n m = v) := Lib.hid fun k p v a b c d => dems_err H256.out a b c d
  have HE2 : Hid (firstE (L.map (demE · n m)) = 0 → demsE L n m = if (L.map Dem.con).Nodup then 0 else 6) := Lib.hid fun a => dems_dup H256.out a
  obtain ⟨E, hEE⟩ : ∃ E, demsE L n m = E := ⟨_, rfl⟩
  rw [hEE] at HE1 HE2 ⊢
  clear h hn hlen h256 H256 hEE
  go_enter Try.func11, Try.ntmps11
  go_wp2
  go_loopw [7] (fun i wr => ∃ k : Nat, k ≤ nL ∧ i = .int .i64 (k : Nat) ∧ firstE ((L.map (demE · n m)).take k) = 0 ∧ Below w.heap.size w wr) (fun i _ => nL - (intOf i).toNat)
  case atStart => exact ⟨0, Nat.zero_le _, rfl, rfl, Below.refl _ _⟩
  case round =>
    obtain ⟨k, hk, rfl, hE, hbel⟩ := hrel
    have HE := Lib.hid hE
    have HB := Lib.hid hbel
    clear hE hbel
    by_cases hlt : k < nL
    · obtain ⟨x, hx⟩ := at_lt (l := L) (k := k) (by rw [HL.out]; exact hlt)
      obtain ⟨b, o, rfl, hb, hc⟩ := HM.out.2 (by omega)
      have hcx := (HM.out.cells_ hlt hx HB.out).2
      have c0 := hcx 0 _ rfl
      rw [Nat.add_zero] at c0
      have c1 := hcx 1 _ rfl
      have c2 := hcx 2 _ rfl
      have c3 := hcx 3 _ rfl
      have c4 := hcx 4 _ rfl
      have c5 := hcx 5 _ rfl
      have c6 := hcx 6 _ rfl
      clear hcx hc
      have HX1 := Lib.hid (firstE_take HE.out (show (L.map (demE · n m))[k]? = some (demE x n m) by simp [hx]))
      have HX := Lib.hid hx
      clear hx
      obtain ⟨con, node, kind, gr, fr, to_, serv⟩ := x
      simp only at c0 c1 c2 c3 c4 c5 c6
      by_cases h7 : dem7 ⟨con, node, kind, gr, fr, to_, serv⟩ n m
      · have H7 := Lib.hid (demE_7 h7)
        unfold dem7 at h7
        simp only at h7
        go_wp2
        all_goals first | (exfalso; omega) | (go_ret; exact ⟨ret_int (HE1.out k _ 7 HE.out HX.out H7.out (by decide)).symm, bthen HB.out (by go_grown) HB.out.size⟩)
      have N7 := Lib.hid h7
      unfold dem7 at h7
      simp only at h7
      have n1 : 0 ≤ node := by omega
      have n2 : node < n := by omega
      have n3 : 0 ≤ kind := by omega
      have n4 : kind < m := by omega
      have n8 : 0 ≤ con := by omega
      have n9 : con < 256 := by omega
      clear h7
      by_cases h1 : dem1 ⟨con, node, kind, gr, fr, to_, serv⟩
      · have H1 := Lib.hid (demE_1 N7.out h1)
        unfold dem1 at h1
        simp only at h1
        go_wp2
        all_goals first | (exfalso; omega) | (go_ret; exact ⟨ret_int (HE1.out k _ 1 HE.out HX.out H1.out (by decide)).symm, bthen HB.out (by go_grown) HB.out.size⟩)
      have H0 := Lib.hid (demE_0 N7.out h1)
      unfold dem1 at h1
      simp only at h1
      have m1 : 0 ≤ gr := by omega
      have m2 : gr ≤ 1073741824 := by omega
      have m3 : 0 ≤ fr := by omega
      have m4 : fr ≤ to_ := by omega
      have m5 : to_ ≤ 86400 := by omega
      have m6 : 0 ≤ serv := by omega
      have m7 : serv ≤ 3600 := by omega
      clear h1
      go_wp2
      all_goals first | (exfalso; omega) | skip
      go_roundw
      case rel => exact ⟨k + 1, by omega, by go_num, by rw [HX1.out, H0.out], bthen HB.out (by go_grown) HB.out.size⟩
      case measure => simp [intOf]; omega
    · have e : k = nL := by omega
      subst e
      have hE0 : firstE (L.map (demE · n m)) = 0 := by
        have := HE.out
        rwa [List.take_of_length_le (by rw [List.length_map, HL.out]; exact Nat.le_refl _)] at this
      have HE0 := Lib.hid (HE2.out hE0)
      obtain ⟨wo, rfl⟩ : ∃ wo : World, wo = wr := ⟨_, rfl⟩
      clear hE0
      go_wp2
      go_loopw [9] (fun i wx => ∃ j : Nat, j ≤ k ∧ i = .int .i64 (j : Nat) ∧ ((L.map Dem.con).take j).Nodup ∧ Below w.heap.size w wx) (fun i _ => k - (intOf i).toNat)
      case atStart => exact ⟨0, Nat.zero_le _, rfl, List.nodup_nil, HB.out⟩
      case round =>
        obtain ⟨j, hj, rfl, hnd1, hbel⟩ := hrel
        have N1 := Lib.hid hnd1
        have HBL := Lib.hid hbel
        clear hnd1 hbel
        by_cases hlt2 : j < k
        · obtain ⟨x, hx⟩ := at_lt (l := L) (k := j) (by rw [HL.out]; exact hlt2)
          obtain ⟨con, node, kind, gr, fr, to_, serv⟩ := x
          obtain ⟨b, o, rfl, hb, hc⟩ := HM.out.2 (by omega)
          have i1 : Hid ((L.map Dem.con)[j]? = some con) := Lib.hid (by simp [hx])
          have HX := Lib.hid hx
          clear hx hc
          obtain ⟨w2, rfl⟩ : ∃ w2 : World, w2 = wr := ⟨_, rfl⟩
          go_wp2
          go_loopw [10] (fun i wy => ∃ t : Nat, t ≤ j ∧ i = .int .i64 (t : Nat) ∧ con ∉ (L.map Dem.con).take t ∧ Below w.heap.size w wy) (fun i _ => j - (intOf i).toNat)
          case atStart => exact ⟨0, Nat.zero_le _, rfl, by simp, HBL.out⟩
          case round =>
            obtain ⟨t, ht, rfl, hn1, hby⟩ := hrel
            have M1 := Lib.hid hn1
            have HBY := Lib.hid hby
            clear hn1 hby
            by_cases hlt3 : t < j
            · obtain ⟨q, hq⟩ := at_lt (l := L) (k := t) (by rw [HL.out]; omega)
              obtain ⟨con2, node2, kind2, gr2, fr2, to2, serv2⟩ := q
              have hc1 := (HM.out.cells_ hlt2 HX.out HBY.out).2
              have hc2 := (HM.out.cells_ (by omega) hq HBY.out).2
              have c0 := hc1 0 _ rfl
              have d0 := hc2 0 _ rfl
              rw [Nat.add_zero] at c0 d0
              have T1 : Hid ((L.map Dem.con).take (t + 1) = (L.map Dem.con).take t ++ [con2]) := Lib.hid (by rw [List.take_add_one, List.getElem?_map, hq]; rfl)
              have X1 : Hid ((L.map Dem.con)[t]? = some con2) := Lib.hid (by simp [hq])
              clear hc1 hc2 hq
              have x1 : (0 : Int) ≤ (j : Int) := by omega
              have x2 : (j : Int) < (k : Int) := by omega
              have x3 : (0 : Int) ≤ (t : Int) := by omega
              have x4 : (t : Int) < (k : Int) := by omega
              by_cases e1 : con = con2
              · subst e1
                go_wp2_with fail
                go_quiet (fail)
                go_wp2
                go_ret
                exact ⟨ret_int (by rw [HE0.out, if_neg (fun h => nod_not i1.out (List.mem_of_getElem? (i := t) (by rw [List.getElem?_take_of_lt hlt3]; exact X1.out)) h)]), belowN HBY.out _⟩
              have f1 : (con == con2) = false := by simpa using e1
              have E1 := Lib.hid e1
              clear e1
              go_wp2_with fail
              go_quiet (fail)
              go_wp2
              go_roundw
              case rel => exact ⟨t + 1, by omega, by go_num, by rw [T1.out, List.mem_append]; intro h; rcases h with h | h; exact M1.out h; exact E1.out (List.mem_singleton.1 h), belowN HBY.out _⟩
              case measure => simp [intOf]; omega
            · have e : t = j := by omega
              subst e
              go_wp2
              go_roundw
              case rel => exact ⟨t + 1, by omega, by go_num, nod_step N1.out i1.out M1.out, HBY.out⟩
              case measure => simp [intOf]; omega
        · have e : j = k := by omega
          subst e
          have hn1 : (L.map Dem.con).Nodup := by
            have := N1.out
            rwa [List.take_of_length_le (by rw [List.length_map, HL.out]; exact Nat.le_refl _)] at this
          have HN := Lib.hid hn1
          clear hn1
          go_wp2
          go_ret
          exact ⟨ret_int (by rw [HE0.out, if_pos HN.out]), HBL.out⟩
end Go.Proofs.Ytmoakdplhfgipaa
