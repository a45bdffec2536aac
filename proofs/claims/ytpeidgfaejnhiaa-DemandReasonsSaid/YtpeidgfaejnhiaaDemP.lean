/- Schedules, fills, demands, in plain Lean: what the functions of the layers 17 and 21 compute. -/
import Derived.Test.YtpeidgfaejnhiaaConR
import Derived.Test.YtpeidgfaejnhiaaListsB
namespace Go.Proofs.Ytpeidgfaejnhiaa
open Go.RowKit

def i64ok (x : Int) : Prop := -9223372036854775808 ≤ x ∧ x ≤ 9223372036854775807

/-! ### schedules -/
structure Sch where
  con : Int
  start : Int
  every : Int
  A : Option Addr
  n : Nat
  c : Nat
  mv : List (Int × Int)
def Sch.cs (s : Sch) : List Value := [.int .i64 s.con, .int .i64 s.start, .int .i64 s.every, .slice s.A s.n s.c]
abbrev Sch.vs (s : Sch) : Array Value := #[.int .i64 s.con, .int .i64 s.start, .int .i64 s.every, .slice s.A s.n s.c]
def mvC (p : Int × Int) : List Value := [.int .i64 p.1, .int .i64 p.2]
def dayP (d : Int) : Prop := 0 ≤ d ∧ d ≤ 36524
instance (d : Int) : Decidable (dayP d) := by unfold dayP; infer_instance
def patP (st ev d : Int) : Prop := dayP d ∧ st ≤ d ∧ (d - st) % ev = 0
instance (st ev d : Int) : Decidable (patP st ev d) := by unfold patP; infer_instance
def dayB (d : Int) : Bool := decide (dayP d)
def patB (st ev d : Int) : Bool := decide (patP st ev d)
/-- Start and Every are valid -/
def stevP (st ev : Int) : Prop := 0 ≤ st ∧ st ≤ 36524 ∧ 1 ≤ ev ∧ ev ≤ 365
/-- the error of a move -/
def mvE (st ev : Int) (p : Int × Int) : Int := if patB st ev p.1 = false then 7 else if dayB p.2 = false then 1 else if patB st ev p.2 = true then 12 else 0
def schR (s : Sch) : Prop := s.con < 0 ∨ 256 ≤ s.con ∨ dayB s.start = false ∨ s.every < 1 ∨ 365 < s.every
instance (s : Sch) : Decidable (schR s) := by unfold schR; infer_instance
/-- the error of a schedule -/
def schE (s : Sch) : Int :=
  if schR s then 1 else if 32 < s.mv.length then 8 else if firstE (s.mv.map (mvE s.start s.every)) ≠ 0 then firstE (s.mv.map (mvE s.start s.every)) else if (s.mv.map (·.1)).Nodup ∧ (s.mv.map (·.2)).Nodup then 0 else 6
/-- whether a day was moved to (true) or away (false), by the last word on it -/
def heldO (l : List (Int × Int)) (d : Int) : Option Bool := l.foldl (fun o p => if d = p.2 then some true else if d = p.1 then some false else o) none
theorem heldO_snoc (l : List (Int × Int)) (p : Int × Int) (d : Int) : heldO (l ++ [p]) d = if d = p.2 then some true else if d = p.1 then some false else heldO l d := by
  unfold heldO
  rw [List.foldl_append]
  rfl
def dueB (s : Sch) (d : Int) : Bool := (heldO s.mv d).getD (patB s.start s.every d)
/-- whether a day is a collection day of a schedule -/
def isDue (s : Sch) (d : Int) : Bool := decide (schE s = 0) && dueB s d

theorem dayB_iff {d : Int} : dayB d = true ↔ 0 ≤ d ∧ d ≤ 36524 := by unfold dayB dayP; exact decide_eq_true_iff
theorem stev_of {s : Sch} (h : ¬ schR s) : stevP s.start s.every := by
  unfold schR at h
  unfold stevP
  have h1 : dayB s.start = true := by
    cases e : dayB s.start
    · exact absurd (.inr (.inr (.inl e))) h
    · rfl
  have h2 := dayB_iff.1 h1
  exact ⟨h2.1, h2.2, by omega, by omega⟩
theorem sch_err {s : Sch} {k : Nat} {p : Int × Int} {v : Int} (hr : ¬ schR s) (h32 : ¬ 32 < s.mv.length) (hE : firstE ((s.mv.map (mvE s.start s.every)).take k) = 0) (hp : s.mv[k]? = some p) (he : mvE s.start s.every p = v) (hv : v ≠ 0) : schE s = v := by
  have h1 := firstE_take hE (show (s.mv.map (mvE s.start s.every))[k]? = some (mvE s.start s.every p) by simp [hp])
  have h2 := firstE_stop (l := s.mv.map (mvE s.start s.every)) (k := k + 1) (by rw [h1, he]; exact hv)
  unfold schE
  have e1 : firstE (s.mv.map (mvE s.start s.every)) = v := by rw [h2, h1, he]
  rw [if_neg hr, if_neg h32, if_pos (by rw [e1]; exact hv), e1]
theorem sch_dup {s : Sch} (hr : ¬ schR s) (h32 : ¬ 32 < s.mv.length) (hE : firstE (s.mv.map (mvE s.start s.every)) = 0) : schE s = if (s.mv.map (·.1)).Nodup ∧ (s.mv.map (·.2)).Nodup then 0 else 6 := by
  unfold schE
  rw [if_neg hr, if_neg h32, if_neg (by rw [hE]; decide)]

/-! ### fills -/
structure Fil where
  con : Int
  lo : Int
  hi : Int
def Fil.cs (f : Fil) : List Value := [.int .i64 f.con, .int .i64 f.lo, .int .i64 f.hi]
abbrev Fil.vs (f : Fil) : Array Value := #[.int .i64 f.con, .int .i64 f.lo, .int .i64 f.hi]
def grAt (C : List Con) (i : Int) : Int := match C[i.toNat]? with | some c => c.gr | none => 0
theorem grAt_is {C : List Con} {i : Nat} {x : Con} (h : C[i]? = some x) : grAt C (i : Int) = x.gr := by unfold grAt; rw [Int.toNat_natCast, h]
def filE (C : List Con) (f : Fil) : Int := if f.con < 0 ∨ (C.length : Int) ≤ f.con then 7 else if f.lo < 0 ∨ f.hi < f.lo ∨ grAt C f.con < f.hi then 1 else 0
/-- the error of fills -/
def filsE (C : List Con) (F : List Fil) : Int :=
  if 256 < F.length then 8 else if firstE (F.map (filE C)) ≠ 0 then firstE (F.map (filE C)) else if (F.map Fil.con).Nodup then 0 else 6
def schA (n : Int) (s : Sch) : Int := if s.con < 0 ∨ n ≤ s.con then 7 else schE s
/-- the error of schedules -/
def schsE (n : Int) (S : List Sch) : Int := if 256 < S.length then 8 else firstE (S.map (schA n))
/-- the error of all lists and numbers -/
def tskE (C : List Con) (S : List Sch) (F : List Fil) (day level : Int) : Int :=
  if chkL C 16 64 ≠ 0 then chkL C 16 64 else if schsE C.length S ≠ 0 then schsE C.length S else if filsE C F ≠ 0 then filsE C F else if day < 0 ∨ 36524 < day ∨ level < 1 ∨ 1000 < level then 1 else 0
/-- the index of the fill of a container, or -1 -/
def filI (F : List Fil) (i : Int) : Int := idxV (fun f => decide (f.con = i)) F
def hiAt (F : List Fil) (i : Int) : Int := match F[i.toNat]? with | some f => f.hi | none => 0
def knownB (F : List Fil) (i : Int) : Bool := !decide (filI F i = -1)
/-- the largest mass of the contents of a container -/
def massV (C : List Con) (F : List Fil) (i : Int) : Int := if filI F i = -1 then grAt C i else hiAt F (filI F i)
def dueA (S : List Sch) (i day : Int) : Bool := S.any fun s => decide (s.con = i) && isDue s day
def fullB (C : List Con) (F : List Fil) (level i : Int) : Bool := knownB F i && (decide (levE (grAt C i) (massV C F i) = 0) && decide (level ≤ levV (grAt C i) (massV C F i)))
/-- the reasons to empty a container, as bits -/
def reaV (C : List Con) (S : List Sch) (F : List Fil) (day level i : Int) : Int := (if dueA S i day then 1 else 0) + if fullB C F level i then 2 else 0

/-! ### demands -/
structure Dem where
  con : Int
  node : Int
  kind : Int
  gr : Int
  from_ : Int
  to_ : Int
  serv : Int
def Dem.cs (x : Dem) : List Value := [.int .i64 x.con, .int .i64 x.node, .int .i64 x.kind, .int .i64 x.gr, .int .i64 x.from_, .int .i64 x.to_, .int .i64 x.serv]
abbrev Dem.vs (x : Dem) : Array Value := #[.int .i64 x.con, .int .i64 x.node, .int .i64 x.kind, .int .i64 x.gr, .int .i64 x.from_, .int .i64 x.to_, .int .i64 x.serv]
/-- the error of a demand -/
def demE (x : Dem) (n m : Int) : Int :=
  if x.con < 0 ∨ 256 ≤ x.con ∨ x.node < 0 ∨ n ≤ x.node ∨ x.kind < 0 ∨ m ≤ x.kind then 7
  else if x.gr < 0 ∨ 1073741824 < x.gr ∨ x.from_ < 0 ∨ x.to_ < x.from_ ∨ 86400 < x.to_ ∨ x.serv < 0 ∨ 3600 < x.serv then 1 else 0
/-- the error of demands -/
def demsE (L : List Dem) (n m : Int) : Int :=
  if 32 < L.length then 8 else if firstE (L.map (demE · n m)) ≠ 0 then firstE (L.map (demE · n m)) else if (L.map Dem.con).Nodup then 0 else 6
def demAt (C : List Con) (F : List Fil) (from_ to_ serv : Int) (i : Nat) (x : Con) : Dem := ⟨i, x.node, x.kind, massV C F i, from_, to_, serv⟩
/-- the demands of a list of containers, of which the first has the index i -/
def demsL (C : List Con) (S : List Sch) (F : List Fil) (day level from_ to_ serv : Int) : List Con → Nat → List Dem
  | [], _ => []
  | x :: r, i => (if reaV C S F day level i = 0 then [] else [demAt C F from_ to_ serv i x]) ++ demsL C S F day level from_ to_ serv r (i + 1)
theorem demsL_snoc (C : List Con) (S : List Sch) (F : List Fil) (day level f t v : Int) (x : Con) : ∀ (l : List Con) (i : Nat),
    demsL C S F day level f t v (l ++ [x]) i = demsL C S F day level f t v l i ++ if reaV C S F day level (i + l.length : Nat) = 0 then [] else [demAt C F f t v (i + l.length) x]
  | [], i => by simp [demsL]
  | y :: r, i => by
    rw [List.cons_append, demsL, demsL_snoc C S F day level f t v x r (i + 1), demsL, List.append_assoc, List.length_cons, Nat.add_assoc, Nat.add_comm 1]
theorem demsL_len (C : List Con) (S : List Sch) (F : List Fil) (day level f t v : Int) : ∀ (l : List Con) (i : Nat), (demsL C S F day level f t v l i).length ≤ l.length
  | [], i => by simp [demsL]
  | y :: r, i => by
    have := demsL_len C S F day level f t v r (i + 1)
    rw [demsL, List.length_append, List.length_cons]
    split <;> simp <;> omega
def winP (f t v : Int) : Prop := f < 0 ∨ t < f ∨ 86400 < t ∨ v < 0 ∨ 3600 < v
instance (f t v : Int) : Decidable (winP f t v) := by unfold winP; infer_instance
def allD (C : List Con) (S : List Sch) (F : List Fil) (day level f t v : Int) : List Dem := demsL C S F day level f t v C 0
/-- the error of Make -/
def makE (C : List Con) (S : List Sch) (F : List Fil) (day level f t v : Int) : Int :=
  if tskE C S F day level ≠ 0 then tskE C S F day level else if winP f t v then 1 else if 32 < (allD C S F day level f t v).length then 8 else 0
/-- the demands of Make -/
def makL (C : List Con) (S : List Sch) (F : List Fil) (day level f t v : Int) : List Dem := if makE C S F day level f t v = 0 then allD C S F day level f t v else []
/-- the error and the result of Why -/
def whyE (C : List Con) (S : List Sch) (F : List Fil) (day level i : Int) : Int := if tskE C S F day level ≠ 0 then tskE C S F day level else if i < 0 ∨ (C.length : Int) ≤ i then 7 else 0
def whyV (C : List Con) (S : List Sch) (F : List Fil) (day level i : Int) : Int := if whyE C S F day level i = 0 then reaV C S F day level i else 0
end Go.Proofs.Ytpeidgfaejnhiaa
