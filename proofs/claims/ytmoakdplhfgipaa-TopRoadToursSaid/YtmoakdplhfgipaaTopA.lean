/- TopRoadTours: what a checked problem tells; the fixed example. -/
import Derived.Test.YtmoakdplhfgipaaExaF
namespace Go.Proofs.Ytmoakdplhfgipaa
set_option maxRecDepth 20000
open Go.RowKit Go.Maps

theorem wok_of {X : WPar} {w : World} (hP : PInX w X) (hT : tourE X.N X.E X.V X.D X.un X.us = 0) (hN : X.N ≤ 10) (hE : X.nE ≤ 60) (hD : X.nD ≤ 6) : ∀ v ∈ X.V, WOk (X.on v) := by
  intro v hv
  unfold tourE at hT
  split at hT
  · omega
  · rename_i h1
    split at hT
    · omega
    · rename_i h2
      split at hT
      · omega
      · rename_i h3
        split at hT
        · omega
        · rename_i h4
          split at hT
          · omega
          · rename_i h5
            have e1 : roaE X.N X.E = 0 := by omega
            have e2 : chkV X.V X.N 16 = 0 := by omega
            have e3 : demsE X.D X.N 16 = 0 := by omega
            have hv2 : vehE v X.N 16 = 0 := by
              unfold chkV at e2
              split at e2
              · omega
              · split at e2
                · omega
                · split at e2
                  · omega
                  · split at e2
                    · omega
                    · rename_i hf
                      have hf0 : firstE (X.V.map (vehE · X.N 16)) = 0 := by omega
                      exact firstE_zero_iff.1 hf0 _ (List.mem_map.2 ⟨v, hv, rfl⟩)
            have hd2 : ∀ d ∈ X.D, demE d X.N 16 = 0 := fun d hd => by
              unfold demsE at e3
              split at e3
              · omega
              · split at e3
                · omega
                · rename_i hf
                  have hf0 : firstE (X.D.map (demE · X.N 16)) = 0 := by omega
                  exact firstE_zero_iff.1 hf0 _ (List.mem_map.2 ⟨d, hd, rfl⟩)
            unfold vehE at hv2
            split at hv2
            · omega
            · split at hv2
              · omega
              · split at hv2
                · omega
                · split at hv2
                  · omega
                  · refine ⟨⟨e1, hN, hE⟩, by show 0 ≤ X.un; omega, by show X.un < X.N; omega, by show 0 ≤ X.us; omega, by show X.us ≤ 7200; omega, by show 0 ≤ v.depot; omega, by show v.depot < X.N; omega, by show 0 ≤ v.from_; omega, by show v.from_ ≤ 86400; omega, by show v.to_ ≤ 86400; omega, by show v.gr ≤ 1073741824; omega, ?_, by show X.nD ≤ 32; omega⟩
                    intro d hd
                    have := hd2 d hd
                    unfold demE at this
                    show 0 ≤ d.node ∧ d.node < X.N ∧ 0 ≤ d.gr ∧ d.gr ≤ 1073741824 ∧ 0 ≤ d.from_ ∧ d.to_ ≤ 86400 ∧ 0 ≤ d.serv ∧ d.serv ≤ 3600
                    split at this
                    · omega
                    · split at this
                      · omega
                      · omega
/-- the fixed example's road -/
def exE : List Edg := [⟨0, 1, 500, 60⟩]
theorem ex_way {n : Int} {l : Lg} (h : Way exE 0 n l) : (n = 0 ∧ l = ⟨0, 0⟩) ∨ (n = 1 ∧ l = ⟨60, 500⟩) := by
  generalize hE : exE = E at h
  induction h with
  | nil => exact .inl ⟨rfl, rfl⟩
  | @step l x hw hx ih =>
    rw [← hE] at hx
    simp [exE] at hx
    subst hx
    rcases ih with ⟨h1, h2⟩ | ⟨h1, h2⟩
    · subst h2
      exact .inr ⟨rfl, rfl⟩
    · exact absurd h1 (by decide)
theorem ex_leg (h : IsLegs 2 exE 0 (legsOf 2 exE 0)) : ato (legsOf 2 exE 0) 1 = ⟨60, 500⟩ := by
  have hw : Way exE 0 1 ⟨60, 500⟩ := by
    have := Way.step (E := exE) (a := 0) (x := ⟨0, 1, 500, 60⟩) .nil (by simp [exE])
    exact this
  obtain ⟨h1, h2⟩ := h.least hw
  rcases ex_way (h.way 1 (by decide) (by decide) h1) with ⟨h3, _⟩ | ⟨_, h3⟩
  · exact absurd h3 (by decide)
  · exact h3
set_option maxRecDepth 100000 in
theorem awake24_any (w : World) : Calls Try.prog 5 #[] w fun e w' => e = .returned (.bool true) ∧ Below w.heap.size w w' := by
  have hb1 : Below w.heap.size w (w.alloc (.cells #[.int .i64 0, .int .i64 1, .int .i64 500, .int .i64 60] 56)) := by go_grown
  have hr := RdT.lit w (f := Edg.cs) (s := 4) (fun _ => rfl) exE #[.int .i64 0, .int .i64 1, .int .i64 500, .int .i64 60] 56 rfl
  have HB1 := Lib.hid hb1
  have HR := Lib.hid hr
  clear hb1 hr
  go_enter Try.func5, Try.ntmps5
  go_wp2_with fail
  refine (legs_any (N := 2) (nE := 1) (cE := 1) (E := exE) (a := 0) HR.out ⟨by decide, by decide, by decide⟩ (by decide)).mono ?_
  rintro e w2 ⟨b, rfl, hb, ho, hi, hb2⟩
  have hat := legs_at hi (to_ := 1) (by decide) (by decide)
  have hx : (legsOf 2 exE ((0 : Nat) : Int))[1]? = some ⟨60, 500⟩ := by
    have := ex_leg hi
    rw [show ((1 : Int).toNat) = 1 from rfl] at hat
    exact hat.trans (by rw [show ato (legsOf 2 exE ((0 : Nat) : Int)) 1 = ⟨60, 500⟩ from this])
  obtain ⟨c0, c1⟩ := OutB.cell ho hx
  have HB2 := Lib.hid (bthen HB1.out hb2 HB1.out.size)
  simp at c0 c1
  clear hb ho hi hb2 hat hx
  go_wp2_with fail
  go_ret
  exact ⟨rfl, HB2.out⟩
theorem runP_len {X : WPar} : ∀ (S pre : List Int) (p p' : Plc) (vs vs' : List Vis), runP X pre S p vs = some (p', vs') → vs'.length = vs.length + S.length
  | [], pre, p, p', vs, vs', h => by
    injection h with h
    injection h with h1 h2
    rw [← h2]
    rfl
  | s :: r, pre, p, p', vs, vs', h => by
    unfold runP at h
    cases hs : stepP X p pre s with
    | none => rw [hs] at h; cases h
    | some q =>
      obtain ⟨p1, v1⟩ := q
      rw [hs] at h
      have := runP_len r _ p1 p' _ vs' h
      simp only [List.length_append, List.length_cons, List.length_nil] at this ⊢
      omega
theorem tourP_len {X : WPar} {S : List Int} {p : Plc} {vs : List Vis} (h : tourP X S = some (p, vs)) : vs.length = S.length + 1 := by
  unfold tourP at h
  cases hr : runP X [] S ⟨X.v.depot, X.v.from_, 0, 0⟩ [] with
  | none => rw [hr] at h; cases h
  | some q =>
    obtain ⟨p1, v1⟩ := q
    rw [hr] at h
    have := runP_len S [] _ p1 [] v1 hr
    simp only at h
    unfold backP at h
    split at h
    · injection h with h
      injection h with h1 h2
      rw [← h2, List.length_append, this]
      simp
    · cases h
end Go.Proofs.Ytmoakdplhfgipaa
