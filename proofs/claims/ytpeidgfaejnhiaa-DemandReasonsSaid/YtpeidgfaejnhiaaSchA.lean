/- Contracts of schedule.day, pattern, Check, of the program. -/
import Derived.Test.YtpeidgfaejnhiaaDemO
import Derived.Test.YtpeidgfaejnhiaaMapI
import Derived.Deep.QuietTactic
import Derived.BigQuiet
import Derived.Deep.RegionWith
import Derived.Deep.RegionHeld3
import Derived.Deep.DrawnRows
import Derived.Deep.DeepCutAuto
namespace Go.Proofs.Ytpeidgfaejnhiaa
open Go.RowKit Go.Maps

theorem bthen {B : Nat} {w w1 w2 : World} (h : Below B w w1) (h2 : Below w1.heap.size w1 w2) (hB : B ≤ w1.heap.size) : Below B w w2 := h.trans (h2.mono hB)

set_option maxHeartbeats 400000 in
theorem day_any (d : Int) (w : World) : Calls Try.prog 41 #[.int .i64 d] w fun e w' => e = .returned (.bool (dayB d)) ∧ w = w' := by
  by_cases h1 : 0 ≤ d <;> by_cases h2 : d ≤ 36524
  all_goals
    go_enter Try.func41, Try.ntmps41
    go_wp2
    go_ret
    exact ⟨ret_bool (by unfold dayB; first | exact (decide_eq_true (show dayP d from ⟨by omega, by omega⟩)).symm | exact (decide_eq_false (fun hp : dayP d => by unfold dayP at hp; omega)).symm), rfl⟩

set_option maxHeartbeats 400000 in
theorem rday_any (d : Int) (w : World) : Calls Try.prog 58 #[.int .i64 d] w fun e w' => e = .returned (.bool (dayB d)) ∧ w = w' := by
  by_cases h1 : 0 ≤ d <;> by_cases h2 : d ≤ 36524
  all_goals
    go_enter Try.func58, Try.ntmps58
    go_wp2
    go_ret
    exact ⟨ret_bool (by unfold dayB; first | exact (decide_eq_true (show dayP d from ⟨by omega, by omega⟩)).symm | exact (decide_eq_false (fun hp : dayP d => by unfold dayP at hp; omega)).symm), rfl⟩
theorem day_val {b : Bool} {d : Int} (h : dayB d = b) (w : World) : Calls Try.prog 41 #[.int .i64 d] w fun e w' => e = .returned (.bool b) ∧ w = w' := by rw [← h]; exact day_any d w
theorem rday_val {b : Bool} {d : Int} (h : dayB d = b) (w : World) : Calls Try.prog 58 #[.int .i64 d] w fun e w' => e = .returned (.bool b) ∧ w = w' := by rw [← h]; exact rday_any d w
theorem patB_day {st ev d : Int} (h : dayB d = false) : patB st ev d = false :=
  decide_eq_false fun hp => of_decide_eq_false h hp.1
theorem patB_lo {st ev d : Int} (h : d < st) : patB st ev d = false :=
  decide_eq_false fun hp => by have := hp.2.1; omega
theorem patB_at {st ev d : Int} (h : dayB d = true) (h1 : st ≤ d) : patB st ev d = decide ((d - st) % ev = 0) := by
  have h0 : dayP d := of_decide_eq_true h
  unfold patB
  by_cases hz : (d - st) % ev = 0
  · rw [decide_eq_true hz]; exact decide_eq_true ⟨h0, h1, hz⟩
  · rw [decide_eq_false hz]; exact decide_eq_false fun hp => hz hp.2.2
set_option maxHeartbeats 800000 in
theorem pat_any (con st ev : Int) (A : Option Addr) (n c : Nat) (d : Int) (w : World) (h : stevP st ev) :
    Calls Try.prog 42 #[.agg #[.int .i64 con, .int .i64 st, .int .i64 ev, .slice A n c], .int .i64 d] w fun e w' => e = .returned (.bool (patB st ev d)) ∧ w' = w.alloc (.cells #[.int .i64 con, .int .i64 st, .int .i64 ev, .slice A n c] 45) := by
  obtain ⟨s0, s1, e0, e1⟩ := h
  cases hd : dayB d
  · have HP := Lib.hid (patB_day (st := st) (ev := ev) hd)
    have HD := Lib.hid hd
    clear hd
    go_enter Try.func42, Try.ntmps42
    go_wp2_with (go_at_call 41; refine (day_val HD.out _).mono ?_; rintro e w' ⟨rfl, rfl⟩)
    go_ret
    exact ⟨ret_bool HP.out.symm, rfl⟩
  · obtain ⟨d0, d1⟩ := dayB_iff.1 hd
    by_cases hs : st ≤ d
    · have HP := Lib.hid (patB_at (ev := ev) hd hs)
      have HD := Lib.hid hd
      clear hd
      have nz : (ev == 0) = false := by simp; omega
      have d2 : 0 ≤ d - st := by omega
      have d3 : d - st ≤ 36524 := by omega
      by_cases hz : (d - st) % ev = 0
      · go_enter Try.func42, Try.ntmps42
        go_wp2_with (go_at_call 41; refine (day_val HD.out _).mono ?_; rintro e w' ⟨rfl, rfl⟩)
        go_ret
        exact ⟨ret_bool (by rw [HP.out, decide_eq_true hz]), rfl⟩
      · have hq : ((d - st) % ev == 0) = false := by simpa using hz
        have HZ := Lib.hid hz
        clear hz
        go_enter Try.func42, Try.ntmps42
        go_wp2_with (go_at_call 41; refine (day_val HD.out _).mono ?_; rintro e w' ⟨rfl, rfl⟩)
        go_ret
        exact ⟨ret_bool (by rw [HP.out, decide_eq_false HZ.out]), rfl⟩
    · have HP := Lib.hid (patB_lo (st := st) (ev := ev) (d := d) (by omega))
      have HD := Lib.hid hd
      clear hd
      go_enter Try.func42, Try.ntmps42
      go_wp2_with (go_at_call 41; refine (day_val HD.out _).mono ?_; rintro e w' ⟨rfl, rfl⟩)
      go_ret
      exact ⟨ret_bool HP.out.symm, rfl⟩

set_option maxHeartbeats 800000 in
theorem rpat_any (con st ev : Int) (A : Option Addr) (n c : Nat) (d : Int) (w : World) (h : stevP st ev) :
    Calls Try.prog 59 #[.agg #[.int .i64 con, .int .i64 st, .int .i64 ev, .slice A n c], .int .i64 d] w fun e w' => e = .returned (.bool (patB st ev d)) ∧ w' = w.alloc (.cells #[.int .i64 con, .int .i64 st, .int .i64 ev, .slice A n c] 45) := by
  obtain ⟨s0, s1, e0, e1⟩ := h
  cases hd : dayB d
  · have HP := Lib.hid (patB_day (st := st) (ev := ev) hd)
    have HD := Lib.hid hd
    clear hd
    go_enter Try.func59, Try.ntmps59
    go_wp2_with (go_at_call 58; refine (rday_val HD.out _).mono ?_; rintro e w' ⟨rfl, rfl⟩)
    go_ret
    exact ⟨ret_bool HP.out.symm, rfl⟩
  · obtain ⟨d0, d1⟩ := dayB_iff.1 hd
    by_cases hs : st ≤ d
    · have HP := Lib.hid (patB_at (ev := ev) hd hs)
      have HD := Lib.hid hd
      clear hd
      have nz : (ev == 0) = false := by simp; omega
      have d2 : 0 ≤ d - st := by omega
      have d3 : d - st ≤ 36524 := by omega
      by_cases hz : (d - st) % ev = 0
      · go_enter Try.func59, Try.ntmps59
        go_wp2_with (go_at_call 58; refine (rday_val HD.out _).mono ?_; rintro e w' ⟨rfl, rfl⟩)
        go_ret
        exact ⟨ret_bool (by rw [HP.out, decide_eq_true hz]), rfl⟩
      · have hq : ((d - st) % ev == 0) = false := by simpa using hz
        have HZ := Lib.hid hz
        clear hz
        go_enter Try.func59, Try.ntmps59
        go_wp2_with (go_at_call 58; refine (rday_val HD.out _).mono ?_; rintro e w' ⟨rfl, rfl⟩)
        go_ret
        exact ⟨ret_bool (by rw [HP.out, decide_eq_false HZ.out]), rfl⟩
    · have HP := Lib.hid (patB_lo (st := st) (ev := ev) (d := d) (by omega))
      have HD := Lib.hid hd
      clear hd
      go_enter Try.func59, Try.ntmps59
      go_wp2_with (go_at_call 58; refine (rday_val HD.out _).mono ?_; rintro e w' ⟨rfl, rfl⟩)
      go_ret
      exact ⟨ret_bool HP.out.symm, rfl⟩
theorem pat_val {b : Bool} {st ev d : Int} (hb : patB st ev d = b) (h : stevP st ev) (con : Int) (A : Option Addr) (n c : Nat) (w : World) :
    Calls Try.prog 42 #[.agg #[.int .i64 con, .int .i64 st, .int .i64 ev, .slice A n c], .int .i64 d] w fun e w' => e = .returned (.bool b) ∧ w' = w.alloc (.cells #[.int .i64 con, .int .i64 st, .int .i64 ev, .slice A n c] 45) := by
  rw [← hb]; exact pat_any con st ev A n c d w h

theorem rpat_val {b : Bool} {st ev d : Int} (hb : patB st ev d = b) (h : stevP st ev) (con : Int) (A : Option Addr) (n c : Nat) (w : World) :
    Calls Try.prog 59 #[.agg #[.int .i64 con, .int .i64 st, .int .i64 ev, .slice A n c], .int .i64 d] w fun e w' => e = .returned (.bool b) ∧ w' = w.alloc (.cells #[.int .i64 con, .int .i64 st, .int .i64 ev, .slice A n c] 45) := by
  rw [← hb]; exact rpat_any con st ev A n c d w h

/-- the set of a list's numbers, as a map -/
def memF (l : List Int) : Int → Option Bool := fun x => if x ∈ l then some true else none
theorem memF_nil : memF [] = fun _ => none := by funext x; simp [memF]
theorem memF_snoc (l : List Int) (k : Int) : updI (memF l) k true = memF (l ++ [k]) := by
  funext x
  unfold updI memF
  by_cases h : x = k
  · subst h; simp
  · simp [h]
theorem memF_in {l : List Int} {k : Int} (h : k ∈ l) : (memF l k).getD false = true := by simp [memF, h]
theorem memF_out {l : List Int} {k : Int} (h : k ∉ l) : (memF l k).getD false = false := by simp [memF, h]

/-- the maps of the days from and to which a collection was moved, behind j rounds -/
def FT (w : World) (fb j : Nat) (mv : List (Int × Int)) : Prop :=
  Mb w fb j (memF ((mv.map (·.1)).take j)) ∧ Mb w (fb + 1) j (memF ((mv.map (·.2)).take j))
theorem FT.made (w : World) (mv : List (Int × Int)) : FT ((w.alloc (.map #[] 0)).alloc (.map #[] 0)) w.heap.size 0 mv := by
  refine ⟨?_, ?_⟩
  · rw [List.take_zero, memF_nil]; exact (Mb.made w).alloc _
  · rw [List.take_zero, memF_nil]
    have := Mb.made (w.alloc (.map #[] 0))
    simpa using this
theorem FT.step {w w1 w2 : World} {fb j : Nat} {mv : List (Int × Int)} {p : Int × Int} (hp : mv[j]? = some p) (h1 : Mb w1 fb (j + 1) (updI (memF ((mv.map (·.1)).take j)) p.1 true)) (h2 : Mb w2 (fb + 1) (j + 1) (updI (memF ((mv.map (·.2)).take j)) p.2 true))
    (e1 : ∀ f, Mb w1 fb (j + 1) f → Mb w fb (j + 1) f) (e2 : ∀ f, Mb w2 (fb + 1) (j + 1) f → Mb w (fb + 1) (j + 1) f) : FT w fb (j + 1) mv := by
  have t1 : (mv.map (·.1)).take (j + 1) = (mv.map (·.1)).take j ++ [p.1] := by rw [List.take_add_one, List.getElem?_map, hp]; rfl
  have t2 : (mv.map (·.2)).take (j + 1) = (mv.map (·.2)).take j ++ [p.2] := by rw [List.take_add_one, List.getElem?_map, hp]; rfl
  refine ⟨?_, ?_⟩
  · rw [t1, ← memF_snoc]; exact e1 _ h1
  · rw [t2, ← memF_snoc]; exact e2 _ h2
theorem nod_step {l : List Int} {j : Nat} {x : Int} (h : (l.take j).Nodup) (hx : l[j]? = some x) (hn : x ∉ l.take j) : (l.take (j + 1)).Nodup := by
  rw [List.take_add_one, hx, List.nodup_append]
  exact ⟨h, by simp, by intro a ha b hb e; simp at hb; subst hb; subst e; exact hn ha⟩
theorem nod_not {l : List Int} {j : Nat} {x : Int} (hx : l[j]? = some x) (hm : x ∈ l.take j) : ¬ l.Nodup := by
  intro hnod
  have h2 : (l.take (j + 1)).Nodup := hnod.sublist (List.take_sublist _ _)
  rw [List.take_add_one, hx, List.nodup_append] at h2
  exact h2.2.2 _ hm _ (by simp) rfl

end Go.Proofs.Ytpeidgfaejnhiaa
