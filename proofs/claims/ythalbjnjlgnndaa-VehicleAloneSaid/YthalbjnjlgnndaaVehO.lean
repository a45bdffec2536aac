/- A list of vehicles is valid exactly if each is valid alone and no two have the same ID; so its opposite order (for VehicleAlone). -/
import Derived.Test.YthalbjnjlgnndaaVehN
namespace Go.Proofs.Ythalbjnjlgnndaa
open Go.RowKit

/-- the wish of the law behind the first k vehicles -/
def wantB (L : List Veh) (n m : Int) (k : Nat) : Bool := decide (∀ x ∈ L.take k, chkV [x] n m = 0) && decide ((L.take k).map Veh.id).Nodup
theorem chk_one {x : Veh} {n m : Int} : chkV [x] n m = 0 ↔ ¬ chkB n m ∧ vehE x n m = 0 := by
  constructor
  · intro h
    obtain ⟨_, _, h1, _, h2, _, _⟩ := chkV_ok h
    exact ⟨h2, h1 x (by simp)⟩
  · rintro ⟨h1, h2⟩
    unfold chkV
    have e : firstE ([x].map (vehE · n m)) = 0 := by simp [firstE, h2]
    rw [if_neg h1, if_neg (by simp), if_neg (by simp), if_neg (by rw [e]; decide), if_pos (by simp)]
theorem chk_all {L : List Veh} {n m : Int} (h0 : L.length ≠ 0) (h16 : L.length ≤ 16) : chkV L n m = 0 ↔ (∀ x ∈ L, chkV [x] n m = 0) ∧ (L.map Veh.id).Nodup := by
  constructor
  · intro h
    obtain ⟨_, _, h1, h2, h3, _, _⟩ := chkV_ok h
    exact ⟨fun x hx => chk_one.2 ⟨h3, h1 x hx⟩, h2⟩
  · rintro ⟨h1, h2⟩
    have hx0 : ∃ x, x ∈ L := List.exists_mem_of_length_pos (by omega)
    obtain ⟨x0, hx0⟩ := hx0
    have hb := (chk_one.1 (h1 x0 hx0)).1
    have e : firstE (L.map (vehE · n m)) = 0 := firstE_zero_iff.2 (fun y hy => by
      obtain ⟨x, hx, rfl⟩ := List.mem_map.1 hy
      exact (chk_one.1 (h1 x hx)).2)
    unfold chkV
    rw [if_neg hb, if_neg h0, if_neg (by omega), if_neg (by rw [e]; decide), if_pos h2]
theorem want_all {L : List Veh} {n m : Int} (h0 : L.length ≠ 0) (h16 : L.length ≤ 16) : decide (chkV L n m = 0) = wantB L n m L.length := by
  unfold wantB
  rw [List.take_length, ← Bool.decide_and]
  exact decide_eq_decide.2 (chk_all h0 h16)
theorem want_rev {L : List Veh} {n m : Int} (h0 : L.length ≠ 0) (h16 : L.length ≤ 16) : decide (chkV L.reverse n m = 0) = wantB L n m L.length := by
  rw [← want_all h0 h16]
  apply decide_eq_decide.2
  rw [chk_all (by simpa using h0) (by simpa using h16), chk_all h0 h16]
  rw [List.map_reverse, (List.reverse_perm (L.map Veh.id)).nodup_iff]
  simp only [List.mem_reverse]
/-- whether no vehicle before k, of the first t, has the ID of x -/
def apartB (L : List Veh) (x : Veh) (t : Nat) : Bool := !memB x.id ((L.take t).map Veh.id)
theorem want_succ {L : List Veh} {n m : Int} {k : Nat} {x : Veh} (hx : L[k]? = some x) : wantB L n m (k + 1) = (wantB L n m k && decide (chkV [x] n m = 0) && apartB L x k) := by
  unfold wantB apartB
  have e : L.take (k + 1) = L.take k ++ [x] := by rw [List.take_add_one, hx]; rfl
  rw [e]
  have h1 : (∀ y ∈ L.take k ++ [x], chkV [y] n m = 0) ↔ (∀ y ∈ L.take k, chkV [y] n m = 0) ∧ chkV [x] n m = 0 := by
    constructor
    · intro h
      exact ⟨fun y hy => h y (by simp [hy]), h x (by simp)⟩
    · rintro ⟨h1, h2⟩ y hy
      rcases List.mem_append.1 hy with h | h
      · exact h1 y h
      · rw [List.mem_singleton.1 h]; exact h2
  have h2 : decide (((L.take k ++ [x]).map Veh.id).Nodup) = (decide ((L.take k).map Veh.id).Nodup && !memB x.id ((L.take k).map Veh.id)) := by
    rw [List.map_append]
    by_cases hm : x.id ∈ (L.take k).map Veh.id
    · rw [memB_iff.2 hm, decide_eq_false (fun h => (List.nodup_append.1 h).2.2 _ hm _ (by simp) rfl)]
      simp
    · rw [memB_false.2 hm, Bool.not_false, Bool.and_true]
      apply decide_eq_decide.2
      rw [List.nodup_append]
      constructor
      · rintro ⟨a, _, _⟩
        exact a
      · intro a
        exact ⟨a, by simp, fun u hu v hv e => by simp at hv; subst hv; subst e; exact hm hu⟩
  rw [decide_eq_decide.2 h1, h2, Bool.decide_and]
  cases decide (∀ y ∈ L.take k, chkV [y] n m = 0) <;> cases decide (chkV [x] n m = 0) <;> cases decide ((L.take k).map Veh.id).Nodup <;> cases memB x.id ((L.take k).map Veh.id) <;> rfl
theorem apart_succ {L : List Veh} {x y : Veh} {t : Nat} (hy : L[t]? = some y) : apartB L x (t + 1) = (apartB L x t && !decide (y.id = x.id)) := by
  unfold apartB
  have e : L.take (t + 1) = L.take t ++ [y] := by rw [List.take_add_one, hy]; rfl
  have h : memB x.id ((L.take t ++ [y]).map Veh.id) = (memB x.id ((L.take t).map Veh.id) || decide (y.id = x.id)) := by
    rw [List.map_append]
    unfold memB
    rw [List.any_append]
    simp
  rw [e, h, Bool.not_or]
end Go.Proofs.Ythalbjnjlgnndaa
