/- Tours in plain Lean: one stop, all stops, the way back; what holds of the visits. -/
import Derived.Test.YtmoakdplhfgipaaTouC
namespace Go.Proofs.Ytmoakdplhfgipaa
set_option maxRecDepth 20000
open Go.RowKit Go.Maps

/-- what tour.Check tells of a problem and of a vehicle of it -/
structure WOk (X : WPar) : Prop where
  net : Net X.N X.E X.nE
  un0 : 0 ≤ X.un
  un1 : X.un < X.N
  us0 : 0 ≤ X.us
  us1 : X.us ≤ 7200
  d0 : 0 ≤ X.v.depot
  d1 : X.v.depot < X.N
  f0 : 0 ≤ X.v.from_
  f1 : X.v.from_ ≤ 86400
  t1 : X.v.to_ ≤ 86400
  g1 : X.v.gr ≤ 1073741824
  dm : ∀ d ∈ X.D, 0 ≤ d.node ∧ d.node < X.N ∧ 0 ≤ d.gr ∧ d.gr ≤ 1073741824 ∧ 0 ≤ d.from_ ∧ d.to_ ≤ 86400 ∧ 0 ≤ d.serv ∧ d.serv ≤ 3600
  dl : X.nD ≤ 32
/-- the bounds behind i stops -/
structure PlB (X : WPar) (i : Nat) (p : Plc) : Prop where
  n0 : 0 ≤ p.n
  n1 : p.n < X.N
  t0 : 0 ≤ p.t
  t1 : p.t ≤ 100000 + 1000000 * (i : Int)
  l0 : 0 ≤ p.l
  l1 : p.l ≤ 1073741824
  m0 : 0 ≤ p.m
  m1 : p.m ≤ 1000000 * (i : Int)
/-- there is a way -/
def Can (X : WPar) (a b : Int) : Prop := IsLegs X.N X.E a (legsOf X.N X.E a) ∧ 0 ≤ (wayOf X a b).s
open Classical in
noncomputable def stepU (X : WPar) (p : Plc) : Option (Plc × Vis) :=
  if Can X p.n X.un then some (⟨X.un, p.t + (wayOf X p.n X.un).s + X.us, 0, p.m + (wayOf X p.n X.un).m⟩, ⟨-1, X.un, p.t + (wayOf X p.n X.un).s, p.t + (wayOf X p.n X.un).s, p.t + (wayOf X p.n X.un).s + X.us, 0⟩) else none
/-- when the service begins -/
noncomputable def startOf (X : WPar) (p : Plc) (d : Dem) : Int := max (p.t + (wayOf X p.n d.node).s) d.from_
def OkD (X : WPar) (p : Plc) (pre : List Int) (s : Int) (d : Dem) : Prop := s ∉ pre ∧ carB X.v.kinds d.kind = true ∧ Can X p.n d.node ∧ startOf X p d < d.to_ ∧ p.l + d.gr ≤ X.v.gr
open Classical in
noncomputable def stepD (X : WPar) (p : Plc) (pre : List Int) (s : Int) (d : Dem) : Option (Plc × Vis) :=
  if OkD X p pre s d then some (⟨d.node, startOf X p d + d.serv, p.l + d.gr, p.m + (wayOf X p.n d.node).m⟩, ⟨s, d.node, p.t + (wayOf X p.n d.node).s, startOf X p d, startOf X p d + d.serv, p.l + d.gr⟩) else none
/-- one stop -/
noncomputable def stepP (X : WPar) (p : Plc) (pre : List Int) (s : Int) : Option (Plc × Vis) :=
  if s = -1 then stepU X p else if s < 0 then none else match X.D[s.toNat]? with
    | none => none
    | some d => stepD X p pre s d
/-- the rest of the stops -/
noncomputable def runP (X : WPar) : List Int → List Int → Plc → List Vis → Option (Plc × List Vis)
  | _, [], p, vs => some (p, vs)
  | pre, s :: r, p, vs => match stepP X p pre s with
    | none => none
    | some (p', v) => runP X (pre ++ [s]) r p' (vs ++ [v])
open Classical in
/-- the way back -/
noncomputable def backP (X : WPar) (p : Plc) (vs : List Vis) : Option (Plc × List Vis) :=
  if Can X p.n X.v.depot ∧ p.l = 0 ∧ p.t + (wayOf X p.n X.v.depot).s < X.v.to_ then some (⟨X.v.depot, p.t + (wayOf X p.n X.v.depot).s, 0, p.m + (wayOf X p.n X.v.depot).m⟩, vs ++ [⟨-2, X.v.depot, p.t + (wayOf X p.n X.v.depot).s, p.t + (wayOf X p.n X.v.depot).s, p.t + (wayOf X p.n X.v.depot).s, 0⟩]) else none
noncomputable def tourP (X : WPar) (S : List Int) : Option (Plc × List Vis) :=
  match runP X [] S ⟨X.v.depot, X.v.from_, 0, 0⟩ [] with
  | none => none
  | some (p, vs) => backP X p vs
theorem way_bnd {X : WPar} {a b : Int} (h : IsLegs X.N X.E a (legsOf X.N X.E a)) (h0 : 0 ≤ b) (h1 : b < X.N) : (wayOf X a b).s ≤ 900000 ∧ 0 ≤ (wayOf X a b).m ∧ (wayOf X a b).m ≤ 900000 := h.bnd b h0 h1
theorem stepP_bnd {X : WPar} (hX : WOk X) {p p' : Plc} {pre : List Int} {s : Int} {v : Vis} {i : Nat} (hp : PlB X i p) (h : stepP X p pre s = some (p', v)) : PlB X (i + 1) p' := by
  obtain ⟨n0, n1, t0, t1, l0, l1, m0, m1⟩ := hp
  unfold stepP at h
  by_cases e : s = -1
  · rw [if_pos e] at h
    unfold stepU at h
    split at h
    · rename_i hc
      injection h with h
      injection h with h1 h2
      subst h1
      obtain ⟨c1, c2⟩ := hc
      obtain ⟨w1, w2, w3⟩ := way_bnd c1 hX.un0 hX.un1
      have := hX.us0; have := hX.us1
      exact ⟨hX.un0, hX.un1, by simp only; omega, by simp only; omega, by simp only; omega, by simp only; omega, by simp only; omega, by simp only; omega⟩
    · cases h
  · rw [if_neg e] at h
    by_cases e2 : s < 0
    · rw [if_pos e2] at h; cases h
    · rw [if_neg e2] at h
      cases hd : X.D[s.toNat]? with
      | none => rw [hd] at h; cases h
      | some d =>
        rw [hd] at h
        simp only at h
        obtain ⟨q0, q1, q2, q3, q4, q5, q6, q7⟩ := hX.dm d (List.mem_of_getElem? hd)
        unfold stepD at h
        split at h
        · rename_i hc
          injection h with h
          injection h with h1 h2
          subst h1
          obtain ⟨_, _, ⟨c1, c2⟩, c3, c4⟩ := hc
          obtain ⟨w1, w2, w3⟩ := way_bnd c1 q0 q1
          have := hX.g1
          have hs : 0 ≤ startOf X p d := by unfold startOf; omega
          exact ⟨q0, q1, by simp only; omega, by simp only; omega, by simp only; omega, by simp only; omega, by simp only; omega, by simp only; omega⟩
        · cases h
/-- what the law says of a visit, with the legs of the depot -/
def GoodV (X : WPar) (v : Vis) : Prop := 0 ≤ v.n ∧ v.n < X.N ∧ 0 ≤ (wayOf X X.v.depot v.n).s ∧ X.v.from_ + (wayOf X X.v.depot v.n).s ≤ v.a ∧ v.a ≤ v.b ∧ v.b ≤ v.e
/-- no place is reached before the fastest way allows -/
def Late (X : WPar) (p : Plc) : Prop := 0 ≤ p.n ∧ p.n < X.N ∧ 0 ≤ (wayOf X X.v.depot p.n).s ∧ X.v.from_ + (wayOf X X.v.depot p.n).s ≤ p.t
theorem late_go {X : WPar} (hd : IsLegs X.N X.E X.v.depot (legsOf X.N X.E X.v.depot)) {p : Plc} (hp : Late X p) {b : Int} (hc : Can X p.n b) (h0 : 0 ≤ b) (h1 : b < X.N) : 0 ≤ (wayOf X X.v.depot b).s ∧ X.v.from_ + (wayOf X X.v.depot b).s ≤ p.t + (wayOf X p.n b).s := by
  obtain ⟨p0, p1, p2, p3⟩ := hp
  obtain ⟨t1, t2⟩ := hd.tri p2 (hc.1.way b h0 h1 hc.2)
  refine ⟨t1, ?_⟩
  have : (wayOf X X.v.depot b).s ≤ (wayOf X X.v.depot p.n).s + (wayOf X p.n b).s := t2
  omega
theorem stepP_good {X : WPar} (hX : WOk X) (hd : IsLegs X.N X.E X.v.depot (legsOf X.N X.E X.v.depot)) {p p' : Plc} {pre : List Int} {s : Int} {v : Vis} (hp : Late X p) (h : stepP X p pre s = some (p', v)) : Late X p' ∧ GoodV X v := by
  unfold stepP at h
  by_cases e : s = -1
  · rw [if_pos e] at h
    unfold stepU at h
    split at h
    · rename_i hc
      injection h with h
      injection h with h1 h2
      subst h1
      subst h2
      obtain ⟨g1, g2⟩ := late_go hd hp hc hX.un0 hX.un1
      have := hX.us0
      exact ⟨⟨hX.un0, hX.un1, g1, by simp only; omega⟩, ⟨hX.un0, hX.un1, g1, g2, Int.le_refl _, by simp only; omega⟩⟩
    · cases h
  · rw [if_neg e] at h
    by_cases e2 : s < 0
    · rw [if_pos e2] at h; cases h
    · rw [if_neg e2] at h
      cases hdm : X.D[s.toNat]? with
      | none => rw [hdm] at h; cases h
      | some d =>
        rw [hdm] at h
        simp only at h
        obtain ⟨q0, q1, q2, q3, q4, q5, q6, q7⟩ := hX.dm d (List.mem_of_getElem? hdm)
        unfold stepD at h
        split at h
        · rename_i hc
          injection h with h
          injection h with h1 h2
          subst h1
          subst h2
          obtain ⟨_, _, hc3, c3, c4⟩ := hc
          obtain ⟨g1, g2⟩ := late_go hd hp hc3 q0 q1
          have hs : p.t + (wayOf X p.n d.node).s ≤ startOf X p d := by unfold startOf; omega
          exact ⟨⟨q0, q1, g1, by simp only; omega⟩, ⟨q0, q1, g1, g2, hs, by simp only; omega⟩⟩
        · cases h
theorem runP_good {X : WPar} (hX : WOk X) (hd : IsLegs X.N X.E X.v.depot (legsOf X.N X.E X.v.depot)) : ∀ (S pre : List Int) (p p' : Plc) (vs vs' : List Vis), Late X p → (∀ v ∈ vs, GoodV X v) → runP X pre S p vs = some (p', vs') → Late X p' ∧ ∀ v ∈ vs', GoodV X v
  | [], pre, p, p', vs, vs', hp, hv, h => by
    injection h with h
    injection h with h1 h2
    subst h1
    subst h2
    exact ⟨hp, hv⟩
  | s :: r, pre, p, p', vs, vs', hp, hv, h => by
    unfold runP at h
    cases hs : stepP X p pre s with
    | none => rw [hs] at h; cases h
    | some q =>
      obtain ⟨p1, v1⟩ := q
      rw [hs] at h
      obtain ⟨g1, g2⟩ := stepP_good hX hd hp hs
      refine runP_good hX hd r _ p1 p' _ vs' g1 (fun v hm => ?_) h
      rcases List.mem_append.1 hm with hm | hm
      · exact hv v hm
      · simp at hm; subst hm; exact g2
theorem tourP_good {X : WPar} (hX : WOk X) (hd : IsLegs X.N X.E X.v.depot (legsOf X.N X.E X.v.depot)) {S : List Int} {p : Plc} {vs : List Vis} (h : tourP X S = some (p, vs)) : ∀ v ∈ vs, GoodV X v := by
  unfold tourP at h
  cases hr : runP X [] S ⟨X.v.depot, X.v.from_, 0, 0⟩ [] with
  | none => rw [hr] at h; cases h
  | some q =>
    obtain ⟨p1, v1⟩ := q
    rw [hr] at h
    have hl0 : Late X ⟨X.v.depot, X.v.from_, 0, 0⟩ := by
      have hsrc : wayOf X X.v.depot X.v.depot = ⟨0, 0⟩ := hd.src
      exact ⟨hX.d0, hX.d1, by rw [hsrc]; decide, by rw [hsrc]; simp⟩
    obtain ⟨g1, g2⟩ := runP_good hX hd S [] _ p1 [] v1 hl0 (by simp) hr
    simp only at h
    unfold backP at h
    split at h
    · rename_i hc
      injection h with h
      injection h with h1 h2
      subst h2
      obtain ⟨k1, k2⟩ := late_go hd g1 hc.1 hX.d0 hX.d1
      intro v hm
      rcases List.mem_append.1 hm with hm | hm
      · exact g2 v hm
      · simp at hm
        subst hm
        exact ⟨hX.d0, hX.d1, k1, k2, Int.le_refl _, Int.le_refl _⟩
    · cases h
end Go.Proofs.Ytmoakdplhfgipaa
