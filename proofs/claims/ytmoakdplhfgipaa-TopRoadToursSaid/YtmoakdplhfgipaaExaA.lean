/- exact.check: some answer. exact.candidates$1: the recursion over the demands that are left. -/
import Derived.Test.YtmoakdplhfgipaaIntA
import Derived.Test.YtmoakdplhfgipaaQueC
import Derived.Lib.JoinLaws
namespace Go.Proofs.Ytmoakdplhfgipaa
set_option maxRecDepth 20000
open Go.RowKit Go.Maps

theorem RdS.takeI {w : World} {S : Nat → Prop} {A : Option Addr} {n j : Nat} {L : List Int} (h : RdS w S A n (zs L)) (hj : j ≤ n) : RdS w S A j (zs (L.take j)) := by
  refine ⟨?_, fun h0 => ?_⟩
  · have := h.1
    rw [zs_len] at this
    rw [zs_len, List.length_take]
    omega
  · obtain ⟨b, o, e, hb, hc⟩ := h.2 (by omega)
    refine ⟨b, o, e, hb, fun i u hu => hc i u ?_⟩
    unfold zs at hu ⊢
    rw [List.map_take] at hu
    have hi : i < j := by
      have := (List.getElem?_eq_some_iff.1 hu).1
      rw [List.length_take] at this
      omega
    rwa [List.getElem?_take_of_lt hi] at hu
theorem enter21 (args : Array Value) (w : World) : (callFunc 21 args).run Try.prog w = .ok (.enter 21 args) w := by kernel_rfl
set_option maxRecDepth 100000 in
theorem echeck1_any {W : World} {pb : Nat} {nE cE nV cV nD cD : Nat} {N un us : Int} {AE AV AD : Option Addr} (h : Blk W pb 28 #[.int .i64 N, .slice AE nE cE, .slice AV nV cV, .slice AD nD cD, .int .i64 un, .int .i64 us]) (x : Int) :
    Calls Try.prog 21 #[.int .i64 x, .pointer (some ⟨pb, 0, none⟩)] W fun e w' => SomeBool e ∧ Below W.heap.size W w' := by
  have c3 := h.cell 3
  simp at c3
  clear h
  go_enter Try.func21, Try.ntmps21
  by_cases h0 : x < 0
  · go_wp2
    go_ret
    exact ⟨⟨_, rfl⟩, Below.refl _ _⟩
  · have h1 : decide (x < 0) = false := by simp; omega
    go_wp2
    go_ret
    exact ⟨⟨_, rfl⟩, Below.refl _ _⟩
set_option maxRecDepth 100000 in
set_option maxHeartbeats 1600000 in
theorem echeck_any {w : World} {AE : Option Addr} {nE cE : Nat} {E : List Edg} {AV : Option Addr} {nV cV : Nat} {V : List Veh} {AD : Option Addr} {nD cD : Nat} {D : List Dem} {N un us vi : Int} {A : Option Addr} {n c : Nat} {S : List Int}
    (h : PIn w AE nE E AV nV V AD nD cD D) (hS : RdS w (· < w.heap.size) A n (zs S)) (hn : n ≤ 3) (hc : n ≤ c) (hT : tourE N E V D un us = 0) :
    Calls Try.prog 12 #[.agg #[.int .i64 N, .slice AE nE cE, .slice AV nV cV, .slice AD nD cD, .int .i64 un, .int .i64 us], .int .i64 vi, .slice A n c] w fun e w' => SomeInt e ∧ Below w.heap.size w w' := by
  obtain ⟨w0, hw0⟩ : ∃ w0, w.alloc (.cells #[.int .i64 N, .slice AE nE cE, .slice AV nV cV, .slice AD nD cD, .int .i64 un, .int .i64 us] 28) = w0 := ⟨_, rfl⟩
  have k0 : Blk w0 w.heap.size 28 #[.int .i64 N, .slice AE nE cE, .slice AV nV cV, .slice AD nD cD, .int .i64 un, .int .i64 us] := by rw [← hw0]; exact Blk.new _ _ _
  have hb0 : Below w.heap.size w w0 := by rw [← hw0]; go_grown
  have HB0 := Lib.hid hb0
  have HP := Lib.hid (h.up hb0)
  have HS := Lib.hid (hS.up hb0)
  have HT := Lib.hid hT
  have HK := Lib.hid k0
  have c0 := k0.cell 0
  have c1 := k0.cell 1
  have c2 := k0.cell 2
  have c3 := k0.cell 3
  have c4 := k0.cell 4
  have c5 := k0.cell 5
  simp at c0 c1 c2 c3 c4 c5
  have hz : w.heap.size < w0.heap.size := k0.lt
  clear h hS hT k0 hb0
  go_enter Try.func12, Try.ntmps12
  go_wp2_with fail
  clear hw0
  refine (tour_check_any HP.out).mono ?_
  rw [HT.out]
  rintro e w1 ⟨rfl, hb1⟩
  have k1 := HK.out.grow hb1
  have d2 := k1.cell 2
  simp at d2
  have HK1 := Lib.hid k1
  have HS1 := Lib.hid (HS.out.up hb1)
  have HB1 := Lib.hid (bthen HB0.out hb1 HB0.out.size)
  clear k1 hb1 c0 c1 c2 c3 c4 c5
  by_cases h0 : vi < 0
  · go_wp2_with fail
    go_ret
    exact ⟨⟨_, rfl⟩, HB1.out⟩
  · have h1 : decide (vi < 0) = false := by simp; omega
    by_cases h2 : (nV : Int) ≤ vi
    · go_wp2_with fail
      go_ret
      exact ⟨⟨_, rfl⟩, HB1.out⟩
    · have h3 : decide (vi ≥ (nV : Int)) = false := by simp; omega
      go_wp2_with fail
      have hg : ∀ x : Int, ∀ W, Below w1.heap.size w1 W → Calls Try.prog 21 (#[.int .i64 x] ++ #[.pointer (some ⟨w.heap.size, 0, none⟩)]) W fun e w' => SomeBool e ∧ Below W.heap.size W w' := fun x W hW => by
        have := echeck1_any (W := W) (HK1.out.grow hW) x
        simpa using this
      refine (contains_fint (lb := #[.pointer (some ⟨w.heap.size, 0, none⟩)]) HS1.out (by omega) enter21 hg).mono ?_
      rintro e w2 ⟨⟨bb, rfl⟩, hb2⟩
      have HS2 := Lib.hid (HS1.out.up hb2)
      have HB2 := Lib.hid (bthen HB1.out hb2 HB1.out.size)
      clear hb2
      cases bb with
      | true =>
        go_wp2_with fail
        go_ret
        exact ⟨⟨_, rfl⟩, HB2.out⟩
      | false =>
        go_wp2_with fail
        go_loopw [32] (fun i wr => ∃ k : Nat, k ≤ n ∧ i = .int .i64 (k : Nat) ∧ RdS wr (· < wr.heap.size) A n (zs S) ∧ Below w.heap.size w wr) (fun i _ => n - (intOf i).toNat)
        case atStart => exact ⟨0, Nat.zero_le _, rfl, HS2.out, HB2.out⟩
        case round =>
          obtain ⟨k, hk, rfl, hs, hbel⟩ := hrel
          have HS3 := Lib.hid hs
          have HB3 := Lib.hid hbel
          have hl := hs.1
          rw [zs_len] at hl
          clear hs hbel
          by_cases hlt : k < n
          · obtain ⟨x, hx⟩ := at_lt (l := S) (k := k) (by rw [hl]; exact hlt)
            obtain ⟨b, o, rfl, hb, hcc⟩ := HS3.out.2 (by omega)
            have c0 := hcc k _ (zs_at hx)
            clear hcc hx hl
            go_wp2_with fail
            refine (contains_int (HS3.out.takeI (j := k) (by omega)) (by omega) x).mono ?_
            rintro e w3 ⟨rfl, hb3⟩
            have HS4 := Lib.hid (HS3.out.up hb3)
            have HB4 := Lib.hid (bthen HB3.out hb3 HB3.out.size)
            obtain ⟨bb, hbb⟩ : ∃ bb, decide (x ∈ S.take k) = bb := ⟨_, rfl⟩
            rw [hbb]
            clear hbb hb3
            cases bb with
            | true =>
              go_wp2_with fail
              go_ret
              exact ⟨⟨_, rfl⟩, HB4.out⟩
            | false =>
              go_wp2_with fail
              go_roundw
              case rel => exact ⟨k + 1, by omega, by go_num, HS4.out, HB4.out⟩
              case measure => simp [intOf]; omega
          · have e : k = n := by omega
            subst e
            go_wp2_with fail
            go_ret
            exact ⟨⟨_, rfl⟩, HB3.out⟩

/-- the candidates' state in memory -/
structure CS (J : World → Prop) (B0 : Nat) (w0 W : World) (lb : Array Value) (A : Option Addr) (nd cd : Nat) (Dm : List Int) (db sb U ub T tb yb k : Nat) : Prop where
  s : Blk W sb 81 #[.func (.func 24) #[] lb]
  t : Blk W tb 29 #[.slice (some ⟨T, 0, none⟩) k (2 * nd)]
  d : Blk W db 29 #[.slice A nd cd]
  u : Blk W ub 104 #[.slice (some ⟨U, 0, none⟩) nd nd]
  y : Blk W yb 105 #[.func (.func 44) #[] #[.pointer (some ⟨sb, 0, none⟩), .pointer (some ⟨tb, 0, none⟩), .pointer (some ⟨db, 0, none⟩), .pointer (some ⟨ub, 0, none⟩), .pointer (some ⟨yb, 0, none⟩)]]
  ur : ∃ bs : List Bool, bs.length = nd ∧ Blk W U 4 (bs.map Value.bool).toArray
  tr : ∃ xs : List Int, xs.length = 2 * nd ∧ Blk W T 3 (rowI xs)
  dm : RdS W (· < B0) A nd (zs Dm)
  j : J W
  b : Below B0 w0 W
  o0 : B0 ≤ db
  o1 : db < sb
  o2 : sb < U
  o3 : U < ub
  o4 : ub < T
  o5 : T < tb
  o6 : tb < yb
section
variable {J : World → Prop} {B0 : Nat} {w0 W W' : World} {lb : Array Value} {A : Option Addr} {nd cd : Nat} {Dm : List Int} {db sb U ub T tb yb k : Nat}
theorem CS.kp {S : Nat → Prop} (h : CS J B0 w0 W lb A nd cd Dm db sb U ub T tb yb k) (hk : Kp S W W') (hS : ∀ b, S b → B0 ≤ b ∧ b < db) (hj : J W') : CS J B0 w0 W' lb A nd cd Dm db sb U ub T tb yb k := by
  obtain ⟨hs, ht, hd, hu, hy, ⟨bs, hbs, hur⟩, ⟨xs, hxs, htr⟩, hdm, _, hb, o0, o1, o2, o3, o4, o5, o6⟩ := h
  have hn : ∀ b, db ≤ b → ¬ S b := fun b hb e => by have := hS b e; omega
  refine ⟨hk.blk hs (hn _ (by omega)), hk.blk ht (hn _ (by omega)), hk.blk hd (hn _ (by omega)), hk.blk hu (hn _ (by omega)), hk.blk hy (hn _ (by omega)), ⟨bs, hbs, hk.blk hur (hn _ (by omega))⟩, ⟨xs, hxs, hk.blk htr (hn _ (by omega))⟩, ?_, hj, ?_, o0, o1, o2, o3, o4, o5, o6⟩
  · have hlt := hd.lt
    exact hdm.keep fun b hb' => hk.block b (by omega) (fun e => by have := hS b e; omega)
  · have hlt := hd.lt
    exact hb.trans (hk.below (by omega) (fun b e => (hS b e).1))
theorem CS.up (h : CS J B0 w0 W lb A nd cd Dm db sb U ub T tb yb k) (hJ : ∀ W W', J W → Kp (fun b => b = U ∨ b = T ∨ b = tb) W W' → J W') (hb : Below W.heap.size W W') : CS J B0 w0 W' lb A nd cd Dm db sb U ub T tb yb k :=
  h.kp (S := fun _ => False) (Kp.of hb) (fun _ e => e.elim) (hJ _ _ h.j (Kp.of hb))
theorem bools_set (bs : List Bool) (i : Nat) (v : Bool) : ((bs.map Value.bool).toArray).setIfInBounds i (.bool v) = ((bs.set i v).map Value.bool).toArray := by
  simp
theorem CS.used (h : CS J B0 w0 W lb A nd cd Dm db sb U ub T tb yb k) (hJ : ∀ W W', J W → Kp (fun b => b = U ∨ b = T ∨ b = tb) W W' → J W') (i : Nat) (v : Bool) : CS J B0 w0 (W.setCell ⟨U, i, none⟩ (.bool v)) lb A nd cd Dm db sb U ub T tb yb k := by
  obtain ⟨hs, ht, hd, hu, hy, ⟨bs, hbs, hur⟩, ⟨xs, hxs, htr⟩, hdm, hj, hb, o0, o1, o2, o3, o4, o5, o6⟩ := h
  have hur2 := hur.set_ i (.bool v)
  rw [bools_set] at hur2
  refine ⟨hs.far (by show sb ≠ U; omega) _, ht.far (by show tb ≠ U; omega) _, hd.far (by show db ≠ U; omega) _, hu.far (by show ub ≠ U; omega) _, hy.far (by show yb ≠ U; omega) _, ⟨_, by rw [List.length_set]; exact hbs, hur2⟩, ⟨xs, hxs, htr.far (by show T ≠ U; omega) _⟩, ?_, hJ _ _ hj ((Kp.refl _ _).set (p := ⟨U, i, none⟩) (.inl rfl) _), below_set hb (by show B0 ≤ U; omega) _, o0, o1, o2, o3, o4, o5, o6⟩
  exact hdm.keep fun b hb' => Below.heap_setCell W _ _ b (by show b ≠ U; omega)
/-- the row of stops written -/
theorem CS.row (h : CS J B0 w0 W lb A nd cd Dm db sb U ub T tb yb k) (hJ : ∀ W W', J W → Kp (fun b => b = U ∨ b = T ∨ b = tb) W W' → J W') (i : Nat) (v : Int) : CS J B0 w0 (W.setCell ⟨T, i, none⟩ (.int .i64 v)) lb A nd cd Dm db sb U ub T tb yb k := by
  obtain ⟨hs, ht, hd, hu, hy, ⟨bs, hbs, hur⟩, ⟨xs, hxs, htr⟩, hdm, hj, hb, o0, o1, o2, o3, o4, o5, o6⟩ := h
  refine ⟨hs.far (by show sb ≠ T; omega) _, ht.far (by show tb ≠ T; omega) _, hd.far (by show db ≠ T; omega) _, hu.far (by show ub ≠ T; omega) _, hy.far (by show yb ≠ T; omega) _, ⟨bs, hbs, hur.far (by show U ≠ T; omega) _⟩, ⟨_, by rw [List.length_set]; exact hxs, row_set htr i v⟩, ?_, hJ _ _ hj ((Kp.refl _ _).set (p := ⟨T, i, none⟩) (.inr (.inl rfl)) _), below_set hb (by show B0 ≤ T; omega) _, o0, o1, o2, o3, o4, o5, o6⟩
  exact hdm.keep fun b hb' => Below.heap_setCell W _ _ b (by show b ≠ T; omega)
/-- the slice of stops set -/
theorem CS.len (h : CS J B0 w0 W lb A nd cd Dm db sb U ub T tb yb k) (hJ : ∀ W W', J W → Kp (fun b => b = U ∨ b = T ∨ b = tb) W W' → J W') (k' : Nat) : CS J B0 w0 (W.setCell ⟨tb, 0, none⟩ (.slice (some ⟨T, 0, none⟩) k' (2 * nd))) lb A nd cd Dm db sb U ub T tb yb k' := by
  obtain ⟨hs, ht, hd, hu, hy, ⟨bs, hbs, hur⟩, ⟨xs, hxs, htr⟩, hdm, hj, hb, o0, o1, o2, o3, o4, o5, o6⟩ := h
  refine ⟨hs.far (by show sb ≠ tb; omega) _, ht.set_ 0 _, hd.far (by show db ≠ tb; omega) _, hu.far (by show ub ≠ tb; omega) _, hy.far (by show yb ≠ tb; omega) _, ⟨bs, hbs, hur.far (by show U ≠ tb; omega) _⟩, ⟨xs, hxs, htr.far (by show T ≠ tb; omega) _⟩, ?_, hJ _ _ hj ((Kp.refl _ _).set (p := ⟨tb, 0, none⟩) (.inr (.inr rfl)) _), below_set hb (by show B0 ≤ tb; omega) _, o0, o1, o2, o3, o4, o5, o6⟩
  exact hdm.keep fun b hb' => Below.heap_setCell W _ _ b (by show b ≠ tb; omega)
/-- the stops read -/
theorem CS.stops (h : CS J B0 w0 W lb A nd cd Dm db sb U ub T tb yb k) (hk : k ≤ 2 * nd) : ∃ S : List Int, RdS W (· < W.heap.size) (some ⟨T, 0, none⟩) k (zs S) := by
  obtain ⟨xs, hxs, htr⟩ := h.tr
  refine ⟨xs.take k, by rw [zs_len, List.length_take]; omega, fun _ => ⟨T, 0, rfl, htr.lt, fun j u hu => ?_⟩⟩
  unfold zs at hu
  rw [List.getElem?_map] at hu
  cases hx : (xs.take k)[j]? with
  | none => rw [hx] at hu; cases hu
  | some x =>
    rw [hx] at hu
    simp only [Option.map_some, Option.some.injEq] at hu
    subst hu
    have hjk : j < k := by
      have := (List.getElem?_eq_some_iff.1 hx).1
      rw [List.length_take] at this
      omega
    rw [List.getElem?_take_of_lt hjk] at hx
    rw [Nat.zero_add]
    exact row_cell htr hx
end
end Go.Proofs.Ytmoakdplhfgipaa
