/- The fastest legs, in plain Lean: what spread's array must be, its uniqueness, the potential that bounds the queue. The fastest legs, in plain Lean: the invariant of spread's loops. -/
import Derived.Test.YtmoakdplhfgipaaQueD
namespace Go.Proofs.Ytmoakdplhfgipaa
set_option maxRecDepth 20000
open Go.RowKit Go.Maps

structure Lg where
  s : Int
  m : Int
def Lg.cs (x : Lg) : List Value := [.int .i64 x.s, .int .i64 x.m]
def noLg : Lg := ⟨-1, 0⟩
/-- the entry of a node -/
def ato (out : List Lg) (n : Int) : Lg := out.getD n.toNat noLg
def Lg.le (a b : Lg) : Prop := a.s < b.s ∨ (a.s = b.s ∧ a.m ≤ b.m)
def Lg.add (a : Lg) (x : Edg) : Lg := ⟨a.s + x.s, a.m + x.m⟩
inductive Way (E : List Edg) (a : Int) : Int → Lg → Prop
  | nil : Way E a a ⟨0, 0⟩
  | step {l : Lg} {x : Edg} : Way E a x.f l → x ∈ E → Way E a x.t (l.add x)
structure IsLegs (N : Nat) (E : List Edg) (a : Int) (out : List Lg) : Prop where
  len : out.length = N
  src : ato out a = ⟨0, 0⟩
  way : ∀ n : Int, 0 ≤ n → n < N → 0 ≤ (ato out n).s → Way E a n (ato out n)
  rel : ∀ x ∈ E, 0 ≤ (ato out x.f).s → 0 ≤ (ato out x.t).s ∧ (ato out x.t).le ((ato out x.f).add x)
  ent : ∀ n : Int, 0 ≤ n → n < N → ato out n = noLg ∨ 0 ≤ (ato out n).s
  bnd : ∀ n : Int, 0 ≤ n → n < N → (ato out n).s ≤ 900000 ∧ 0 ≤ (ato out n).m ∧ (ato out n).m ≤ 900000
theorem Lg.le_trans {a b c : Lg} (h : a.le b) (h2 : b.le c) : a.le c := by
  unfold Lg.le at *
  omega
theorem Lg.le_add {a b : Lg} (h : a.le b) (x : Edg) : (a.add x).le (b.add x) := by
  unfold Lg.le Lg.add at *
  simp only
  omega
theorem Lg.le_anti {a b : Lg} (h : a.le b) (h2 : b.le a) : a = b := by
  obtain ⟨s, m⟩ := a
  obtain ⟨s', m'⟩ := b
  unfold Lg.le at *
  simp only at h h2
  rw [show s = s' by omega, show m = m' by omega]
theorem IsLegs.least {N : Nat} {E : List Edg} {a : Int} {out : List Lg} (h : IsLegs N E a out) {n : Int} {l : Lg} (hw : Way E a n l) : 0 ≤ (ato out n).s ∧ (ato out n).le l := by
  induction hw with
  | nil => rw [h.src]; exact ⟨Int.le_refl _, .inr ⟨rfl, Int.le_refl _⟩⟩
  | step _ hx ih =>
    obtain ⟨i1, i2⟩ := ih
    obtain ⟨r1, r2⟩ := h.rel _ hx i1
    exact ⟨r1, Lg.le_trans r2 (Lg.le_add i2 _)⟩
theorem IsLegs.uniq {N : Nat} {E : List Edg} {a : Int} {o1 o2 : List Lg} (h1 : IsLegs N E a o1) (h2 : IsLegs N E a o2) : o1 = o2 := by
  refine List.ext_getElem (h1.len.trans h2.len.symm) fun k k1 k2 => ?_
  have hk : k < N := by rw [← h1.len]; exact k1
  have e1 : o1[k] = ato o1 (k : Nat) := by simp [ato, List.getD, List.getElem?_eq_getElem k1]
  have e2 : o2[k] = ato o2 (k : Nat) := by simp [ato, List.getD, List.getElem?_eq_getElem k2]
  rw [e1, e2]
  rcases h1.ent (k : Nat) (by omega) (by omega) with n1 | n1
  · rcases h2.ent (k : Nat) (by omega) (by omega) with n2 | n2
    · rw [n1, n2]
    · have := (h1.least (h2.way _ (by omega) (by omega) n2)).1
      rw [n1] at this
      exact absurd this (by decide)
  · have w1 := h1.way _ (by omega) (by omega) n1
    have l2 := h2.least w1
    exact Lg.le_anti (h1.least (h2.way _ (by omega) (by omega) l2.1)).2 l2.2
/-- the rest of a way, walked in the legs of another node -/
theorem IsLegs.tri {N : Nat} {E : List Edg} {a : Int} {out : List Lg} (h : IsLegs N E a out) {b n : Int} {l : Lg} (hb : 0 ≤ (ato out b).s) (hw : Way E b n l) : 0 ≤ (ato out n).s ∧ (ato out n).s ≤ (ato out b).s + l.s := by
  induction hw with
  | nil => exact ⟨hb, by simp⟩
  | @step l x _ hx ih =>
    obtain ⟨i1, i2⟩ := ih
    obtain ⟨r1, r2⟩ := h.rel _ hx i1
    refine ⟨r1, ?_⟩
    unfold Lg.le Lg.add at r2
    simp only at r2
    show _ ≤ _ + (l.s + x.s)
    omega

/-! The potential. -/
def fin (x : Lg) : Bool := decide (0 ≤ x.s)
def phi (x : Lg) : Nat := if fin x then x.s.toNat * 900001 + x.m.toNat else 0
def total (out : List Lg) : Nat := (out.map phi).sum
def rest : Nat → Nat
  | 0 => 0
  | k + 1 => ((9 - k) * 100000 + 1) * 900001 + rest k
def Phi (out : List Lg) : Nat := total out + rest (10 - out.countP fin)
theorem total_set : ∀ (out : List Lg) (i : Nat) (y : Lg), i < out.length → total (out.set i y) + phi (out.getD i noLg) = total out + phi y
  | [], _, _, h => absurd h (by simp)
  | x :: r, 0, y, _ => by simp [total]; omega
  | x :: r, i + 1, y, h => by
    have ih := total_set r i y (by simpa using h)
    simp only [total, List.set_cons_succ, List.map_cons, List.sum_cons, List.getD_cons_succ] at ih ⊢
    omega
theorem count_set : ∀ (out : List Lg) (i : Nat) (y : Lg), i < out.length → (out.set i y).countP fin + (if fin (out.getD i noLg) then 1 else 0) = out.countP fin + (if fin y then 1 else 0)
  | [], _, _, h => absurd h (by simp)
  | x :: r, 0, y, _ => by simp [List.countP_cons]; omega
  | x :: r, i + 1, y, h => by
    have ih := count_set r i y (by simpa using h)
    simp only [List.set_cons_succ, List.countP_cons, List.getD_cons_succ] at ih ⊢
    omega
theorem ato_lt {out : List Lg} {a : Int} (h : 0 ≤ (ato out a).s) : a.toNat < out.length := by
  rcases Nat.lt_or_ge a.toNat out.length with h1 | h1
  · exact h1
  · unfold ato at h
    rw [show out.getD a.toNat noLg = noLg by simp [List.getD, List.getElem?_eq_none h1]] at h
    exact absurd h (by decide)
/-- distinct indices of finite entries are no more than these -/
theorem pigeon : ∀ (p : List Int) (out : List Lg), p.Nodup → (∀ a ∈ p, 0 ≤ a ∧ 0 ≤ (ato out a).s) → p.length ≤ out.countP fin
  | [], _, _, _ => Nat.zero_le _
  | a :: p, out, hn, hf => by
    have ha := ato_lt (hf a (by simp)).2
    have h1 := pigeon p (out.set a.toNat noLg) (List.nodup_cons.1 hn).2 (fun b hb => by
      have hne : a ≠ b := fun e => (List.nodup_cons.1 hn).1 (by rw [e]; exact hb)
      obtain ⟨b0, b1⟩ := hf b (by simp [hb])
      have a0 := (hf a (by simp)).1
      refine ⟨b0, ?_⟩
      unfold ato at b1 ⊢
      have : a.toNat ≠ b.toNat := by omega
      simpa [List.getD, List.getElem?_set, this] using b1)
    have h2 := count_set out a.toNat noLg ha
    rw [if_pos (by simpa [fin, ato] using (hf a (by simp)).2), if_neg (by decide)] at h2
    simp only [List.length_cons]
    omega
theorem ato_set {out : List Lg} {n k : Int} {y : Lg} (h0 : 0 ≤ k) (h1 : k < out.length) (hn : 0 ≤ n) : ato (out.set k.toNat y) n = if n = k then y else ato out n := by
  unfold ato
  by_cases h : n = k
  · subst h
    rw [if_pos rfl]
    simp [List.getD, List.getElem?_set, show n.toNat < out.length by omega]
  · rw [if_neg h]
    have : k.toNat ≠ n.toNat := by omega
    simp [List.getD, List.getElem?_set, this]
theorem ato_set_eq {out : List Lg} {k : Int} {y : Lg} (h0 : 0 ≤ k) (h1 : k < out.length) : ato (out.set k.toNat y) k = y := by rw [ato_set h0 h1 h0, if_pos rfl]

/-- a way over different nodes, at each of them no better than the entries -/
inductive Chain (E : List Edg) (a : Int) (out : List Lg) : List Int → Int → Lg → Prop
  | nil : ato out a = ⟨0, 0⟩ → Chain E a out [a] a ⟨0, 0⟩
  | step {p : List Int} {l : Lg} {x : Edg} : Chain E a out p x.f l → x ∈ E → x.t ∉ p → 0 ≤ (ato out x.t).s → (ato out x.t).le (l.add x) → Chain E a out (x.t :: p) x.t (l.add x)
section
variable {E : List Edg} {a : Int} {out : List Lg} {p : List Int} {n : Int} {l : Lg}
theorem Chain.way (h : Chain E a out p n l) : Way E a n l := by
  induction h with
  | nil => exact .nil
  | step _ hx _ _ _ ih => exact .step ih hx
theorem Chain.nodup (h : Chain E a out p n l) : p.Nodup := by
  induction h with
  | nil => simp
  | step _ _ hn _ _ ih => exact List.nodup_cons.2 ⟨hn, ih⟩
theorem Chain.fins (h : Chain E a out p n l) : ∀ b ∈ p, 0 ≤ (ato out b).s := by
  induction h with
  | nil h0 => intro b hb; simp at hb; subst hb; rw [h0]; decide
  | step _ _ _ hf _ ih =>
    intro b hb
    rcases List.mem_cons.1 hb with rfl | hb
    · exact hf
    · exact ih b hb
theorem Chain.bound {N : Int} (hE : ∀ x ∈ E, 0 ≤ x.f ∧ x.f < N ∧ 0 ≤ x.t ∧ x.t < N ∧ x.f ≠ x.t ∧ 1 ≤ x.m ∧ x.m ≤ 100000 ∧ 1 ≤ x.s ∧ x.s ≤ 100000) (ha : 0 ≤ a ∧ a < N) (h : Chain E a out p n l) :
    1 ≤ p.length ∧ 0 ≤ l.s ∧ 0 ≤ l.m ∧ l.s ≤ 100000 * ((p.length : Int) - 1) ∧ l.m ≤ 100000 * ((p.length : Int) - 1) ∧ (∀ b ∈ p, 0 ≤ b ∧ b < N) ∧ (∀ b ∈ p, (ato out b).s ≤ l.s) := by
  induction h with
  | nil h0 =>
    refine ⟨by simp, by simp, by simp, by simp, by simp, ?_, ?_⟩
    · intro b hb; simp at hb; subst hb; exact ha
    · intro b hb; simp at hb; subst hb; rw [h0]; simp
  | @step p l x _ hx hn hf hle ih =>
    obtain ⟨i0, i1, i2, i3, i4, i5, i6⟩ := ih
    obtain ⟨e1, e2, e3, e4, e5, e6, e7, e8, e9⟩ := hE x hx
    unfold Lg.le Lg.add at hle
    simp only at hle
    unfold Lg.add
    refine ⟨by simp, by simp only; omega, by simp only; omega, by simp only [List.length_cons]; omega, by simp only [List.length_cons]; omega, ?_, ?_⟩
    · intro b hb
      rcases List.mem_cons.1 hb with rfl | hb
      · exact ⟨e3, e4⟩
      · exact i5 b hb
    · intro b hb
      rcases List.mem_cons.1 hb with rfl | hb
      · simp only; omega
      · have := i6 b hb; simp only; omega
/-- better entries keep a chain -/
theorem Chain.mono {out' : List Lg} (h : Chain E a out p n l) (ha : ato out a = ⟨0, 0⟩ → ato out' a = ⟨0, 0⟩) (hm : ∀ x ∈ E, 0 ≤ (ato out x.t).s → 0 ≤ (ato out' x.t).s ∧ (ato out' x.t).le (ato out x.t)) : Chain E a out' p n l := by
  induction h with
  | nil h0 => exact .nil (ha h0)
  | step _ hx hn hf hle ih =>
    obtain ⟨m1, m2⟩ := hm _ hx hf
    exact .step ih hx hn m1 (Lg.le_trans m2 hle)
end

/-- the edges of a network -/
def EdgesOk (N : Nat) (E : List Edg) : Prop := ∀ x ∈ E, 0 ≤ x.f ∧ x.f < (N : Int) ∧ 0 ≤ x.t ∧ x.t < (N : Int) ∧ x.f ≠ x.t ∧ 1 ≤ x.m ∧ x.m ≤ 100000 ∧ 1 ≤ x.s ∧ x.s ≤ 100000
/-- an edge is relaxed -/
def Rlx (out : List Lg) (x : Edg) : Prop := 0 ≤ (ato out x.t).s ∧ (ato out x.t).le ((ato out x.f).add x)
structure LI (N : Nat) (E : List Edg) (a : Int) (out : List Lg) (L : List Itm) (D : Int → Prop) : Prop where
  len : out.length = N
  src : ato out a = ⟨0, 0⟩
  ent : ∀ n : Int, 0 ≤ n → n < N → ato out n = noLg ∨ 0 ≤ (ato out n).s
  chain : ∀ n : Int, 0 ≤ n → n < N → 0 ≤ (ato out n).s → ∃ p, Chain E a out p n (ato out n)
  qv : ∀ x ∈ L, 0 ≤ x.v ∧ x.v < N ∧ 0 ≤ x.s
  work : ∀ n : Int, 0 ≤ n → n < N → 0 ≤ (ato out n).s → D n ∨ (∃ x ∈ L, x.v = n ∧ x.s = (ato out n).s ∧ x.m = (ato out n).m) ∨ ∀ x ∈ E, x.f = n → Rlx out x
section
variable {N : Nat} {E : List Edg} {a : Int} {out : List Lg} {L L' : List Itm} {D : Int → Prop}
theorem LI.bound (h : LI N E a out L D) (hE : EdgesOk N E) (ha : 0 ≤ a ∧ a < (N : Int)) {n : Int} (h0 : 0 ≤ n) (h1 : n < N) (hf : 0 ≤ (ato out n).s) :
    ∃ p, Chain E a out p n (ato out n) ∧ 1 ≤ p.length ∧ p.length ≤ out.countP fin ∧ 0 ≤ (ato out n).m ∧ (ato out n).s ≤ 100000 * ((p.length : Int) - 1) ∧ (ato out n).m ≤ 100000 * ((p.length : Int) - 1) ∧ (∀ b ∈ p, (ato out b).s ≤ (ato out n).s) ∧ ∀ b ∈ p, 0 ≤ b ∧ 0 ≤ (ato out b).s := by
  obtain ⟨p, hp⟩ := h.chain n h0 h1 hf
  obtain ⟨b1, b2, b3, b4, b5, b6, b7⟩ := hp.bound hE ha
  have hfin : ∀ b ∈ p, 0 ≤ b ∧ 0 ≤ (ato out b).s := fun b hb => ⟨(b6 b hb).1, hp.fins b hb⟩
  exact ⟨p, hp, b1, pigeon p out hp.nodup hfin, b3, b4, b5, b7, hfin⟩
theorem LI.done (h : LI N E a out [] (fun _ => False)) (hE : EdgesOk N E) (ha : 0 ≤ a ∧ a < (N : Int)) (hN : N ≤ 10) : IsLegs N E a out := by
  refine ⟨h.len, h.src, fun n h0 h1 hf => ?_, fun x hx hf => ?_, h.ent, fun n h0 h1 => ?_⟩
  · obtain ⟨p, hp⟩ := h.chain n h0 h1 hf
    exact hp.way
  · obtain ⟨e1, e2, _⟩ := hE x hx
    rcases h.work x.f e1 e2 hf with hw | ⟨y, hy, _⟩ | hw
    · exact hw.elim
    · cases hy
    · exact hw x hx rfl
  · rcases h.ent n h0 h1 with e | e
    · rw [e]; decide
    · obtain ⟨p, _, _, hpl, bm0, bs, bm, _⟩ := h.bound hE ha h0 h1 e
      have hcp := List.countP_le_length (p := fin) (l := out)
      rw [h.len] at hcp
      omega
theorem LI.settled {v : Int} (h : LI N E a out L (fun n => n = v)) (hr : ∀ x ∈ E, x.f = v → Rlx out x) : LI N E a out L (fun _ => False) :=
  ⟨h.len, h.src, h.ent, h.chain, h.qv, fun n h0 h1 hf => by
    rcases h.work n h0 h1 hf with hw | hw
    · subst hw; exact .inr (.inr hr)
    · exact .inr hw⟩
theorem LI.pop_old {x : Itm} (h : LI N E a out L (fun _ => False)) (hp : L.Perm (x :: L')) (hne : ato out x.v ≠ ⟨x.s, x.m⟩) : LI N E a out L' (fun _ => False) :=
  ⟨h.len, h.src, h.ent, h.chain, fun y hy => h.qv y (hp.mem_iff.2 (by simp [hy])), fun n h0 h1 hf => by
    rcases h.work n h0 h1 hf with hw | ⟨y, hy, e1, e2, e3⟩ | hw
    · exact .inl hw
    · rcases List.mem_cons.1 (hp.mem_iff.1 hy) with e | hy
      · subst e
        exact absurd (by rw [e1, e2, e3]) hne
      · exact .inr (.inl ⟨y, hy, e1, e2, e3⟩)
    · exact .inr (.inr hw)⟩
theorem LI.pop_new {x : Itm} (h : LI N E a out L (fun _ => False)) (hp : L.Perm (x :: L')) : LI N E a out L' (fun n => n = x.v) :=
  ⟨h.len, h.src, h.ent, h.chain, fun y hy => h.qv y (hp.mem_iff.2 (by simp [hy])), fun n h0 h1 hf => by
    rcases h.work n h0 h1 hf with hw | ⟨y, hy, e1, e2, e3⟩ | hw
    · exact hw.elim
    · rcases List.mem_cons.1 (hp.mem_iff.1 hy) with e | hy
      · subst e
        exact .inl e1.symm
      · exact .inr (.inl ⟨y, hy, e1, e2, e3⟩)
    · exact .inr (.inr hw)⟩
theorem rlx_no {y : Edg} (hent : ato out y.t = noLg ∨ 0 ≤ (ato out y.t).s) (hb : betB ((ato out y.f).s + y.s) ((ato out y.f).m + y.m) (ato out y.t).s (ato out y.t).m = false) : Rlx out y := by
  unfold betB at hb
  simp only [Bool.or_eq_false_iff, Bool.and_eq_false_iff, decide_eq_false_iff_not] at hb
  obtain ⟨⟨h1, h2⟩, h3⟩ := hb
  have hf : 0 ≤ (ato out y.t).s := by
    rcases hent with e | e
    · rw [e] at h1; simp [noLg] at h1
    · exact e
  refine ⟨hf, ?_⟩
  unfold Lg.le Lg.add
  simp only
  omega
/-- an edge that betters its end -/
theorem LI.better {v : Int} (h : LI N E a out L (fun n => n = v)) (hE : EdgesOk N E) (ha : 0 ≤ a ∧ a < (N : Int)) (hN : N ≤ 10) (hv : 0 ≤ (ato out v).s) {y : Edg} (hy : y ∈ E) (hyv : y.f = v)
    (hb : betB ((ato out v).s + y.s) ((ato out v).m + y.m) (ato out y.t).s (ato out y.t).m = true) {k : Int} (hp : L'.Perm (L ++ [⟨y.t, (ato out v).s + y.s, (ato out v).m + y.m, k⟩])) :
    LI N E a (out.set y.t.toNat ((ato out v).add y)) L' (fun n => n = v) ∧ ato (out.set y.t.toNat ((ato out v).add y)) v = ato out v ∧ Phi (out.set y.t.toNat ((ato out v).add y)) < Phi out ∧ (∀ x ∈ E, x.f = v → Rlx out x → Rlx (out.set y.t.toNat ((ato out v).add y)) x) ∧ Rlx (out.set y.t.toNat ((ato out v).add y)) y := by
  obtain ⟨e1, e2, e3, e4, e5, e6, e7, e8, e9⟩ := hE y hy
  subst hyv
  obtain ⟨p, hp0, hp1, hp2, hp3, hp4, hp5, hp6, hp7⟩ := h.bound hE ha e1 e2 hv
  have hlen : y.t < (out.length : Int) := by rw [h.len]; exact e4
  have hlt : y.t.toNat < out.length := by omega
  have hbet : ato out y.t = noLg ∨ (0 ≤ (ato out y.t).s ∧ ¬ (ato out y.t).le ((ato out y.f).add y)) := by
    rcases h.ent y.t e3 e4 with e | e
    · exact .inl e
    · right
      refine ⟨e, fun hl => ?_⟩
      unfold betB at hb
      simp only [Bool.or_eq_true, Bool.and_eq_true, decide_eq_true_eq] at hb
      unfold Lg.le Lg.add at hl
      simp only at hl
      omega
  have hnp : y.t ∉ p := fun hm => by
    have h6 := hp6 _ hm
    have h7 := (hp7 _ hm).2
    rcases hbet with e | ⟨_, e⟩
    · rw [e] at h7; exact absurd h7 (by decide)
    · refine e ?_
      unfold Lg.le Lg.add
      simp only
      omega
  have hya : y.t ≠ a := fun e => by
    rcases hbet with e' | ⟨_, e'⟩
    · rw [e, h.src] at e'; exact absurd (congrArg Lg.s e') (by decide)
    · refine e' ?_
      rw [e, h.src]
      unfold Lg.le Lg.add
      simp only
      omega
  generalize ho : out.set y.t.toNat ((ato out y.f).add y) = out'
  have hA : ∀ n : Int, 0 ≤ n → ato out' n = if n = y.t then (ato out y.f).add y else ato out n := fun n hn => by
    rw [← ho]; exact ato_set e3 hlen hn
  have hAt : ato out' y.t = (ato out y.f).add y := by rw [hA _ e3, if_pos rfl]
  have hAf : ato out' y.f = ato out y.f := by rw [hA _ e1, if_neg e5]
  have hAa : ato out' a = ⟨0, 0⟩ := by rw [hA _ ha.1, if_neg (fun e => hya e.symm), h.src]
  have hmono : ∀ n : Int, 0 ≤ n → 0 ≤ (ato out n).s → 0 ≤ (ato out' n).s ∧ (ato out' n).le (ato out n) := fun n h0 hf => by
    rw [hA n h0]
    by_cases e : n = y.t
    · subst e
      rw [if_pos rfl]
      refine ⟨by unfold Lg.add; simp only; omega, ?_⟩
      rcases hbet with e | ⟨_, e⟩
      · rw [e] at hf; exact absurd hf (by decide)
      · unfold Lg.le Lg.add at *
        simp only at *
        omega
    · rw [if_neg e]
      exact ⟨hf, .inr ⟨rfl, Int.le_refl _⟩⟩
  have hch : ∀ {p n l}, Chain E a out p n l → Chain E a out' p n l := fun hc => hc.mono (fun _ => hAa) (fun x hx hf => hmono _ (hE x hx).2.2.1 hf)
  have hrlx : ∀ x ∈ E, ato out' x.f = ato out x.f → Rlx out x → Rlx out' x := fun x hx he hr => by
    obtain ⟨r1, r2⟩ := hr
    obtain ⟨m1, m2⟩ := hmono _ (hE x hx).2.2.1 r1
    exact ⟨m1, by rw [he]; exact Lg.le_trans m2 r2⟩
  refine ⟨⟨by rw [← ho, List.length_set]; exact h.len, hAa, fun n h0 h1 => ?_, fun n h0 h1 hf => ?_, fun x hx => ?_, fun n h0 h1 hf => ?_⟩, hAf, ?_, fun x hx hxf hr => hrlx x hx (by rw [hxf]; exact hAf) hr, ?_⟩
  · rw [hA n h0]
    by_cases e : n = y.t
    · rw [if_pos e]; right; unfold Lg.add; simp only; omega
    · rw [if_neg e]; exact h.ent n h0 h1
  · by_cases e : n = y.t
    · subst e
      rw [hAt]
      refine ⟨y.t :: p, .step (hch hp0) hy hnp ?_ ?_⟩
      · rw [hAt]; unfold Lg.add; simp only; omega
      · rw [hAt]; exact .inr ⟨rfl, Int.le_refl _⟩
    · rw [hA n h0, if_neg e] at hf ⊢
      obtain ⟨p', hp'⟩ := h.chain n h0 h1 hf
      exact ⟨p', hch hp'⟩
  · rcases List.mem_append.1 (hp.mem_iff.1 hx) with hx | hx
    · exact h.qv x hx
    · simp at hx
      subst hx
      exact ⟨e3, e4, by simp only; omega⟩
  · by_cases e : n = y.t
    · subst e
      right; left
      refine ⟨_, hp.mem_iff.2 (List.mem_append.2 (.inr (List.mem_singleton.2 rfl))), rfl, ?_, ?_⟩
      · rw [hAt]; rfl
      · rw [hAt]; rfl
    · rw [hA n h0, if_neg e] at hf ⊢
      rcases h.work n h0 h1 hf with hw | ⟨x, hx, hw⟩ | hw
      · exact .inl hw
      · exact .inr (.inl ⟨x, hp.mem_iff.2 (List.mem_append.2 (.inl hx)), hw⟩)
      · refine .inr (.inr fun x hx hxf => hrlx x hx ?_ (hw x hx hxf))
        rw [hxf, hA n h0, if_neg e]
  · have ht := total_set out y.t.toNat ((ato out y.f).add y) hlt
    have hc := count_set out y.t.toNat ((ato out y.f).add y) hlt
    have hcl : (out.set y.t.toNat ((ato out y.f).add y)).countP fin ≤ N := by
      have := List.countP_le_length (p := fin) (l := out.set y.t.toNat ((ato out y.f).add y))
      rw [List.length_set, h.len] at this
      exact this
    rw [ho] at ht hc hcl
    have hfn : fin ((ato out y.f).add y) = true := by unfold fin Lg.add; simp only [decide_eq_true_eq]; omega
    rw [if_pos hfn] at hc
    have hph : phi ((ato out y.f).add y) = ((ato out y.f).s + y.s).toNat * 900001 + ((ato out y.f).m + y.m).toNat := by unfold phi; rw [if_pos hfn]; rfl
    have hg : out.getD y.t.toNat noLg = ato out y.t := rfl
    rw [hg] at ht hc
    unfold Phi
    rcases hbet with e | ⟨e, hl⟩
    · rw [e, show phi noLg = 0 from rfl] at ht
      rw [e, if_neg (by decide)] at hc
      have hc' : out'.countP fin = out.countP fin + 1 := by omega
      obtain ⟨j, hj⟩ : ∃ j, 10 - out.countP fin = j + 1 := ⟨9 - out.countP fin, by omega⟩
      rw [hc', hj, show 10 - (out.countP fin + 1) = j by omega]
      show _ < _ + (((9 - j) * 100000 + 1) * 900001 + rest j)
      rw [show 9 - j = out.countP fin by omega]
      have h3 : ((ato out y.f).s + y.s).toNat ≤ out.countP fin * 100000 := by omega
      have h4 : ((ato out y.f).m + y.m).toNat ≤ 900000 := by omega
      have h5 := Nat.mul_le_mul_right 900001 h3
      omega
    · have hpl : (y.t :: p).length ≤ out.countP fin := pigeon (y.t :: p) out (List.nodup_cons.2 ⟨hnp, hp0.nodup⟩) (fun b hb => by
        rcases List.mem_cons.1 hb with rfl | hb
        · exact ⟨e3, e⟩
        · exact hp7 b hb)
      simp only [List.length_cons] at hpl
      have hfo : fin (ato out y.t) = true := by unfold fin; simpa using e
      rw [if_pos hfo] at hc
      have hc' : out'.countP fin = out.countP fin := by omega
      rw [hc']
      have hpo : phi (ato out y.t) = (ato out y.t).s.toNat * 900001 + (ato out y.t).m.toNat := by unfold phi; rw [if_pos hfo]
      have h4 : ((ato out y.f).m + y.m).toNat ≤ 900000 := by omega
      unfold Lg.le Lg.add at hl
      simp only at hl
      have hm := (h.bound hE ha e3 e4 e)
      obtain ⟨_, _, _, _, hm0, _⟩ := hm
      have : ((ato out y.f).s + y.s).toNat < (ato out y.t).s.toNat ∨ (((ato out y.f).s + y.s).toNat = (ato out y.t).s.toNat ∧ ((ato out y.f).m + y.m).toNat < (ato out y.t).m.toNat) := by omega
      omega
  · refine ⟨by rw [hAt]; unfold Lg.add; simp only; omega, ?_⟩
    rw [hAt, hAf]
    exact .inr ⟨rfl, Int.le_refl _⟩
end
/-- how long the queue may become -/
def maxQ : Nat := 4050012600010
theorem ato_rep (N : Nat) (n : Int) : ato (List.replicate N noLg) n = noLg := by
  unfold ato
  rcases Nat.lt_or_ge n.toNat N with h | h
  · simp [List.getD, h]
  · simp [List.getD, List.getElem?_eq_none, h]
theorem LI.start {N : Nat} {E : List Edg} {a : Int} (ha : 0 ≤ a ∧ a < (N : Int)) (k : Int) : LI N E a ((List.replicate N noLg).set a.toNat ⟨0, 0⟩) [⟨a, 0, 0, k⟩] (fun _ => False) ∧ 1 + Phi ((List.replicate N noLg).set a.toNat ⟨0, 0⟩) ≤ maxQ := by
  have hl : a < ((List.replicate N noLg).length : Int) := by simpa using ha.2
  have hA : ∀ n : Int, 0 ≤ n → ato ((List.replicate N noLg).set a.toNat ⟨0, 0⟩) n = if n = a then ⟨0, 0⟩ else noLg := fun n hn => by rw [ato_set ha.1 hl hn, ato_rep]
  have hAa : ato ((List.replicate N noLg).set a.toNat ⟨0, 0⟩) a = ⟨0, 0⟩ := by rw [hA a ha.1, if_pos rfl]
  refine ⟨⟨by simp, hAa, fun n h0 h1 => ?_, fun n h0 h1 hf => ?_, fun x hx => ?_, fun n h0 h1 hf => ?_⟩, ?_⟩
  · rw [hA n h0]
    by_cases e : n = a
    · rw [if_pos e]; exact .inr (Int.le_refl _)
    · rw [if_neg e]; exact .inl rfl
  · by_cases e : n = a
    · subst e; rw [hAa]; exact ⟨[n], .nil hAa⟩
    · rw [hA n h0, if_neg e] at hf; exact absurd hf (by decide)
  · simp at hx; subst hx; exact ⟨ha.1, ha.2, Int.le_refl _⟩
  · by_cases e : n = a
    · subst e; rw [hAa]; exact .inr (.inl ⟨_, List.mem_singleton.2 rfl, rfl, rfl, rfl⟩)
    · rw [hA n h0, if_neg e] at hf; exact absurd hf (by decide)
  · have hlt : a.toNat < (List.replicate N noLg).length := by simp; omega
    have ht := total_set (List.replicate N noLg) a.toNat ⟨0, 0⟩ hlt
    have hc := count_set (List.replicate N noLg) a.toNat ⟨0, 0⟩ hlt
    have hg : (List.replicate N noLg).getD a.toNat noLg = noLg := ato_rep N a
    rw [hg, show phi noLg = 0 from rfl, show phi ⟨0, 0⟩ = 0 from rfl] at ht
    rw [hg, if_neg (by decide), if_pos (by decide)] at hc
    have h0 : (List.replicate N noLg).countP fin = 0 := by simp [List.countP_replicate, show fin noLg = false from rfl]
    have h1 : total (List.replicate N noLg) = 0 := by simp [total, show phi noLg = 0 from rfl]
    unfold Phi
    rw [show ((List.replicate N noLg).set a.toNat ⟨0, 0⟩).countP fin = 1 by omega, show total ((List.replicate N noLg).set a.toNat ⟨0, 0⟩) = 0 by omega]
    decide
end Go.Proofs.Ytmoakdplhfgipaa
