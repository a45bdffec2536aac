/- Vehicles, in plain Lean: what the functions on vehicles compute. -/
import Derived.Test.YtmoakdplhfgipaaListsA
import Derived.Test.YtmoakdplhfgipaaListsB
namespace Go.Proofs.Ytmoakdplhfgipaa
set_option maxRecDepth 20000
open Go.RowKit

structure Veh where
  id : ByteArray
  depot : Int
  from_ : Int
  to_ : Int
  gr : Int
  kinds : Int
def Veh.cs (v : Veh) : List Value := [.string v.id, .int .i64 v.depot, .int .i64 v.from_, .int .i64 v.to_, .int .i64 v.gr, .int .i64 v.kinds]
abbrev Veh.vs (v : Veh) : Array Value := #[.string v.id, .int .i64 v.depot, .int .i64 v.from_, .int .i64 v.to_, .int .i64 v.gr, .int .i64 v.kinds]
/-- the error of a vehicle, at n nodes and m materials -/
def vehE (v : Veh) (n m : Int) : Int :=
  if validB v.id.data.toList = false then 5 else if v.depot < 0 ∨ n ≤ v.depot then 7 else if v.from_ < 0 ∨ v.to_ ≤ v.from_ ∨ 86400 < v.to_ then 19 else if v.gr < 1 ∨ 1073741824 < v.gr then 1 else if v.kinds < 1 ∨ (2 : Int) ^ m.toNat ≤ v.kinds then 21 else 0
def chkB (n m : Int) : Prop := n < 1 ∨ 64 < n ∨ m < 1 ∨ 16 < m
instance (n m : Int) : Decidable (chkB n m) := by unfold chkB; infer_instance
/-- the error of vehicles -/
def chkV (L : List Veh) (n m : Int) : Int :=
  if chkB n m then 1 else if L.length = 0 then 10 else if 16 < L.length then 8 else if firstE (L.map (vehE · n m)) ≠ 0 then firstE (L.map (vehE · n m)) else if (L.map Veh.id).Nodup then 0 else 6
/-- whether a set of kinds holds a kind -/
def carB (kinds k : Int) : Bool := decide (0 ≤ k ∧ k < 16) && decide (kinds / 2 ^ k.toNat % 2 = 1)
def kindsL (kinds : Int) : List Nat := (List.range 16).filter fun k => carB kinds (k : Int)
/-- whether loads fit -/
def fitP (g : Int) (l : List Int) : Prop := 0 ≤ g ∧ (∀ n ∈ l, 0 ≤ n) ∧ l.sum ≤ g
instance (g : Int) (l : List Int) : Decidable (fitP g l) := by unfold fitP; infer_instance
theorem sum_take_le {l : List Int} (h : ∀ n ∈ l, 0 ≤ n) (k : Nat) : (l.take k).sum ≤ l.sum := by
  induction l generalizing k with
  | nil => simp
  | cons x r ih =>
    cases k with
    | zero =>
      have h1 := ih (fun n hn => h n (List.mem_cons_of_mem _ hn)) 0
      have h2 := h x (List.mem_cons_self ..)
      simp at h1 ⊢
      omega
    | succ k =>
      have h1 := ih (fun n hn => h n (List.mem_cons_of_mem _ hn)) k
      simp
      omega
theorem sum_snoc (l : List Int) (x : Int) : (l ++ [x]).sum = l.sum + x := by simp
theorem chk_errV {L : List Veh} {k : Nat} {x : Veh} {n m v : Int} (hb : ¬ chkB n m) (h0 : ¬ L.length = 0) (h16 : ¬ 16 < L.length) (hE : firstE ((L.map (vehE · n m)).take k) = 0) (hx : L[k]? = some x) (he : vehE x n m = v) (hv : v ≠ 0) : chkV L n m = v := by
  have h1 := firstE_take hE (show (L.map (vehE · n m))[k]? = some (vehE x n m) by simp [hx])
  have h2 := firstE_stop (l := L.map (vehE · n m)) (k := k + 1) (by rw [h1, he]; exact hv)
  unfold chkV
  have e1 : firstE (L.map (vehE · n m)) = v := by rw [h2, h1, he]
  rw [if_neg hb, if_neg h0, if_neg h16, if_pos (by rw [e1]; exact hv), e1]
theorem chk_dupV {L : List Veh} {n m : Int} (hb : ¬ chkB n m) (h0 : ¬ L.length = 0) (h16 : ¬ 16 < L.length) (hE : firstE (L.map (vehE · n m)) = 0) : chkV L n m = if (L.map Veh.id).Nodup then 0 else 6 := by
  unfold chkV
  rw [if_neg hb, if_neg h0, if_neg h16, if_neg (by rw [hE]; decide)]
end Go.Proofs.Ytmoakdplhfgipaa
