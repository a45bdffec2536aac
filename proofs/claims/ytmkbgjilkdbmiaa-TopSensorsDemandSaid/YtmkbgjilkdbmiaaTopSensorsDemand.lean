/- TopSensorsDemand: a container whose true contents agree with the reading of its sensor and have reached the level has a demand; the fixed example holds. No condition. -/
import Derived.Test.YtmkbgjilkdbmiaaFi
import Derived.Test.YtmkbgjilkdbmiaaDemL
namespace Go.Proofs.Ytmkbgjilkdbmiaa.topSensorsDemand
open Go.ChangeShapes Go.WideShapes Go.ChangeAt Go.RowKit Go.Deep
set_option linter.unusedVariables false

def IsRead (W : World) (v : Value) : Prop := ∃ (id : ByteArray) (kind lit gr node em fu er dr raw days mass : Int), v = .agg #[.string id, .int .i64 kind, .int .i64 lit, .int .i64 gr, .int .i64 node, .int .i64 em, .int .i64 fu, .int .i64 er, .int .i64 dr, .int .i64 raw, .int .i64 days, .int .i64 mass] ∧ id.size ≤ maxLen ∧ i64ok kind ∧ i64ok lit ∧ i64ok gr ∧ i64ok node
section Opn
variable {H : Type} {enc : TypeId × Value → H} {base b0 : Nat} {v : Value} {d : DataW H} {p : List MemPlace} {r : Reach}
theorem open_read (W : World) (hv : Value.okWide Try.prog W r b0 27 v) (h : DataW.Trod enc Try.prog W 0 (fun _ => true) true 27 v d p) : IsRead W v := by
  obtain ⟨cs, rfl, hsz, hl⟩ := open_agg (k := 5) (ls := [9, 3, 3, 3, 3, 3, 3, 3, 3, 3, 3, 3]) Try.underlying27 (by kernel_rfl) (by kernel_rfl) hv h
  obtain ⟨l⟩ := cs
  match l, hsz with
  | [u0, u1, u2, u3, u4, u5, u6, u7, u8, u9, u10, u11], _ =>
    obtain ⟨x0, e0, f0⟩ := hl 0 _ rfl
    obtain ⟨x1, e1, f1⟩ := hl 1 _ rfl
    obtain ⟨x2, e2, f2⟩ := hl 2 _ rfl
    obtain ⟨x3, e3, f3⟩ := hl 3 _ rfl
    obtain ⟨x4, e4, f4⟩ := hl 4 _ rfl
    obtain ⟨x5, e5, f5⟩ := hl 5 _ rfl
    obtain ⟨x6, e6, f6⟩ := hl 6 _ rfl
    obtain ⟨x7, e7, f7⟩ := hl 7 _ rfl
    obtain ⟨x8, e8, f8⟩ := hl 8 _ rfl
    obtain ⟨x9, e9, f9⟩ := hl 9 _ rfl
    obtain ⟨x10, e10, f10⟩ := hl 10 _ rfl
    obtain ⟨x11, e11, f11⟩ := hl 11 _ rfl
    simp at e0 e1 e2 e3 e4 e5 e6 e7 e8 e9 e10 e11
    subst e0; subst e1; subst e2; subst e3; subst e4; subst e5; subst e6; subst e7; subst e8; subst e9; subst e10; subst e11
    obtain ⟨y0, rfl, g0⟩ := f0.str Try.underlying9
    obtain ⟨y1, rfl, g1⟩ := f1.int Try.underlying3
    obtain ⟨y2, rfl, g2⟩ := f2.int Try.underlying3
    obtain ⟨y3, rfl, g3⟩ := f3.int Try.underlying3
    obtain ⟨y4, rfl, g4⟩ := f4.int Try.underlying3
    obtain ⟨y5, rfl, g5⟩ := f5.int Try.underlying3
    obtain ⟨y6, rfl, g6⟩ := f6.int Try.underlying3
    obtain ⟨y7, rfl, g7⟩ := f7.int Try.underlying3
    obtain ⟨y8, rfl, g8⟩ := f8.int Try.underlying3
    obtain ⟨y9, rfl, g9⟩ := f9.int Try.underlying3
    obtain ⟨y10, rfl, g10⟩ := f10.int Try.underlying3
    obtain ⟨y11, rfl, g11⟩ := f11.int Try.underlying3
    exact ⟨y0, y1, y2, y3, y4, y5, y6, y7, y8, y9, y10, y11, rfl, g0, wf_i64 g1, wf_i64 g2, wf_i64 g3, wf_i64 g4⟩
end Opn

theorem awake_any (w : World) : Calls Try.prog 5 #[] w fun e w' => e = .returned (.bool true) ∧ Below w.heap.size w w' := by
  have v1 : Hid (levV 1000 500 = 500) := Lib.hid (by decide +kernel)
  have v2 : Hid (levE 1000 500 = 0) := Lib.hid (by decide +kernel)
  go_enter Try.func5, Try.ntmps5
  go_wp2_with fail
  refine (level_val (id := ⟨#[99]⟩) (a := 0) (b := 100) (d := 0) v1.out v2.out _).mono ?_
  rintro e w1 ⟨rfl, rfl⟩
  go_wp2
  go_ret
  exact ⟨rfl, by go_grown⟩

/-! ### the one demand -/
theorem top_make {c : Con} {lo hi level mass : Int} (h : chkL [c] 16 64 = 0) (h1 : 0 ≤ lo) (h2 : lo ≤ hi) (h3 : hi ≤ c.gr) (h4 : 1 ≤ level) (h5 : level ≤ 1000) (h6 : levE c.gr mass = 0) (h7 : level ≤ levV c.gr mass) (h8 : mass ≤ hi) :
    makE [c] [] [⟨0, lo, hi⟩] 0 level 0 86400 60 = 0 ∧ makL [c] [] [⟨0, lo, hi⟩] 0 level 0 86400 60 = [⟨0, c.node, c.kind, hi, 0, 86400, 60⟩] := by
  have hg : grAt [c] 0 = c.gr := grAt_is (i := 0) rfl
  have hf : filsE [c] [⟨0, lo, hi⟩] = 0 := by
    have e : filE [c] ⟨0, lo, hi⟩ = 0 := by
      unfold filE
      rw [if_neg (by simp), if_neg (by simp only [hg]; omega)]
    unfold filsE
    rw [if_neg (by simp), if_neg (by simp [firstE, e]), if_pos (by simp)]
  have hs : schsE (([c] : List Con).length) [] = 0 := rfl
  have ht : tskE [c] [] [⟨0, lo, hi⟩] 0 level = 0 := by
    rw [tsk_d h hs hf, if_neg (by omega)]
  have hfull : fullB [c] [⟨0, lo, hi⟩] level ((0 : Nat) : Int) = true := full_of (i := 0) (k := 0) ht rfl rfl rfl h6 h7 h8
  have hr : reaV [c] [] [⟨0, lo, hi⟩] 0 level ((0 : Nat) : Int) ≠ 0 := rea_nz.2 (.inr hfull)
  have hm : massV [c] [⟨0, lo, hi⟩] 0 = hi := (fil_known (C := [c]) (F := [⟨0, lo, hi⟩]) (by simp) (k := 0) rfl).2
  have ha : allD [c] [] [⟨0, lo, hi⟩] 0 level 0 86400 60 = [⟨0, c.node, c.kind, hi, 0, 86400, 60⟩] := by
    show (if reaV [c] [] [⟨0, lo, hi⟩] 0 level ((0 : Nat) : Int) = 0 then [] else [demAt [c] [⟨0, lo, hi⟩] 0 86400 60 0 c]) ++ [] = _
    rw [if_neg hr, List.append_nil]
    unfold demAt
    rw [show massV [c] [⟨0, lo, hi⟩] ((0 : Nat) : Int) = hi from hm]
    rfl
  obtain ⟨e1, e2⟩ := mak_ok (f := 0) (t := 86400) (v := 60) ht (by unfold winP; omega) (by rw [ha]; simp)
  exact ⟨e1, e2.trans ha⟩
theorem rcheck1 {e0 : Int} {w : World} {id : ByteArray} {kind lit gr node : Int} (he : chkL [⟨id, kind, lit, gr, node⟩] 16 64 = e0) (hs : id.size ≤ maxLen) :
    Calls Try.prog 4 #[.slice (some ⟨w.heap.size, 0, none⟩) 1 1, .int .i64 16, .int .i64 64] (w.alloc (.cells #[.string id, .int .i64 kind, .int .i64 lit, .int .i64 gr, .int .i64 node] 23)) fun e w' => e = .returned (.int .i64 e0) ∧ Below (w.heap.size + 1) (w.alloc (.cells #[.string id, .int .i64 kind, .int .i64 lit, .int .i64 gr, .int .i64 node] 23)) w' := by
  rw [← he]
  have h := rcheck_any (c := 1) (RdT.lit w (f := Con.cs) (s := 5) (fun _ => rfl) [⟨id, kind, lit, gr, node⟩] #[.string id, .int .i64 kind, .int .i64 lit, .int .i64 gr, .int .i64 node] 23 rfl) (by decide : 1 ≤ maxLen) (by intro x hx; simp at hx; subst hx; exact hs) 16 64
  simpa using h
theorem flev_val {lo hi fe em fu er dr raw days : Int} (h1 : Fi.lvLo em fu er dr raw days = lo) (h2 : Fi.lvHi em fu er dr raw days = hi) (h3 : Fi.lvE em fu er dr raw days = fe) (w : World) :
    Calls Try.prog 6 #[.agg #[.int .i64 em, .int .i64 fu, .int .i64 er, .int .i64 dr], .int .i64 raw, .int .i64 days] w fun e w' => e = .returned (.tuple #[.agg #[.int .i64 lo, .int .i64 hi], .int .i64 fe]) ∧ Below w.heap.size w w' := by
  rw [← h1, ← h2, ← h3]; exact Fi.level_any em fu er dr raw days w
theorem fmass_val {mlo mhi me g lo hi : Int} (h1 : Fi.massLo g lo hi = mlo) (h2 : Fi.massHi g lo hi = mhi) (h3 : Fi.massE g lo hi = me) (id : ByteArray) (kind lit node : Int) (w : World) :
    Calls Try.prog 8 #[.agg #[.string id, .int .i64 kind, .int .i64 lit, .int .i64 g, .int .i64 node], .agg #[.int .i64 lo, .int .i64 hi]] w fun e w' => e = .returned (.tuple #[.agg #[.int .i64 mlo, .int .i64 mhi], .int .i64 me]) ∧ Below w.heap.size w w' := by
  rw [← h1, ← h2, ← h3]; exact Fi.mass_any id kind lit g node lo hi w
def RdCells (W : World) (g : Nat) (id : ByteArray) (kind lit gr node em fu er dr raw days mass : Int) : Prop := W.cell? ⟨g, 0, none⟩ = some (.string id) ∧ W.cell? ⟨g, 1, none⟩ = some (.int .i64 kind) ∧ W.cell? ⟨g, 2, none⟩ = some (.int .i64 lit) ∧ W.cell? ⟨g, 3, none⟩ = some (.int .i64 gr) ∧ W.cell? ⟨g, 4, none⟩ = some (.int .i64 node) ∧ W.cell? ⟨g, 5, none⟩ = some (.int .i64 em) ∧ W.cell? ⟨g, 6, none⟩ = some (.int .i64 fu) ∧ W.cell? ⟨g, 7, none⟩ = some (.int .i64 er) ∧ W.cell? ⟨g, 8, none⟩ = some (.int .i64 dr) ∧ W.cell? ⟨g, 9, none⟩ = some (.int .i64 raw) ∧ W.cell? ⟨g, 10, none⟩ = some (.int .i64 days) ∧ W.cell? ⟨g, 11, none⟩ = some (.int .i64 mass)
section
variable {W : World} {g : Nat} {id : ByteArray} {kind lit gr node em fu er dr raw days mass : Int}
theorem rdCells (h : Blk W g 27 #[.string id, .int .i64 kind, .int .i64 lit, .int .i64 gr, .int .i64 node, .int .i64 em, .int .i64 fu, .int .i64 er, .int .i64 dr, .int .i64 raw, .int .i64 days, .int .i64 mass]) : RdCells W g id kind lit gr node em fu er dr raw days mass := ⟨h.cell 0, h.cell 1, h.cell 2, h.cell 3, h.cell 4, h.cell 5, h.cell 6, h.cell 7, h.cell 8, h.cell 9, h.cell 10, h.cell 11⟩
end

theorem topIn (w : World) {id : ByteArray} {kind lit gr node lo hi : Int} (h : conOk ⟨id, kind, lit, gr, node⟩) :
    (⟨some ⟨w.heap.size, 0, none⟩, 1, 1, [⟨id, kind, lit, gr, node⟩], none, 0, 0, [], some ⟨w.heap.size + 1, 0, none⟩, 1, 1, [⟨0, lo, hi⟩]⟩ : Tri).In ((w.alloc (.cells #[.string id, .int .i64 kind, .int .i64 lit, .int .i64 gr, .int .i64 node] 23)).alloc (.cells #[.int .i64 0, .int .i64 lo, .int .i64 hi] 43)) := by
  have h1 := RdT.lit w (f := Con.cs) (s := 5) (fun _ => rfl) [⟨id, kind, lit, gr, node⟩] #[.string id, .int .i64 kind, .int .i64 lit, .int .i64 gr, .int .i64 node] 23 rfl
  obtain ⟨w1, hw1⟩ : ∃ w1, w.alloc (.cells #[.string id, .int .i64 kind, .int .i64 lit, .int .i64 gr, .int .i64 node] 23) = w1 := ⟨_, rfl⟩
  have e1 : w1.heap.size = w.heap.size + 1 := by rw [← hw1]; simp
  rw [hw1] at h1 ⊢
  have h3 := RdT.lit w1 (f := Fil.cs) (s := 3) (fun _ => rfl) [⟨0, lo, hi⟩] #[.int .i64 0, .int .i64 lo, .int .i64 hi] 43 rfl
  have b3 : Below w1.heap.size w1 (w1.alloc (.cells #[.int .i64 0, .int .i64 lo, .int .i64 hi] 43)) := (Below.refl _ _).alloc (Nat.le_refl _) _
  rw [show RdT _ _ _ _ (some ⟨w1.heap.size, 0, none⟩) _ _ = RdT _ _ _ _ (some ⟨w.heap.size + 1, 0, none⟩) _ _ by rw [e1]] at h3
  refine ⟨h1.up b3, (by decide : 1 ≤ maxLen), ?_, RdT.none_, Nat.zero_le _, by simp, h3, (by decide : 1 ≤ maxLen), Nat.le_refl _, Nat.le_refl _, Nat.le_refl _⟩
  intro x hx
  rw [List.mem_singleton.1 hx]
  exact h
theorem make_val {E : Int} {L : List Dem} {w : World} {T : Tri} {day level f t v : Int} (hE : makE T.C T.S T.F day level f t v = E) (hL : makL T.C T.S T.F day level f t v = L) (h : T.In w) (hd : i64ok day) :
    Calls Try.prog 9 #[.slice T.AC T.nC T.cC, .slice T.AS T.nS T.cS, .slice T.AF T.nF T.cF, .int .i64 day, .int .i64 level, .agg #[.int .i64 f, .int .i64 t], .int .i64 v] w (MakPost w L E) := by rw [← hE, ← hL]; exact make_any h day level f t v hd

set_option maxRecDepth 100000 in
set_option maxHeartbeats 3200000 in
theorem walk (w : World) (v0 : Value) (hv0 : IsRead w v0) (v1 : Value) (hv1 : IsInt .i64 v1) :
    Calls Try.prog 3 #[v0, v1] w fun e w' => e = .returned (.bool true) ∧ Below w.heap.size w w' := by
  obtain ⟨id, kind, lit, gr, node, em, fu, er, dr, raw, days, mass, rfl, hid, hok1, hok2, hok3, hok4⟩ := hv0
  obtain ⟨level, rfl, _⟩ := hv1
  have HS := Lib.hid hid
  have HOK : Hid (conOk ⟨id, kind, lit, gr, node⟩) := Lib.hid ⟨hid, hok1, hok2, hok3, hok4⟩
  clear hid hok1 hok2 hok3 hok4
  have K0 := Blk.new w 27 #[.string id, .int .i64 kind, .int .i64 lit, .int .i64 gr, .int .i64 node, .int .i64 em, .int .i64 fu, .int .i64 er, .int .i64 dr, .int .i64 raw, .int .i64 days, .int .i64 mass]
  have HK0 := Lib.hid K0
  have HB0 := Lib.hid ((Below.refl w.heap.size w).alloc (Nat.le_refl _) (.cells #[.string id, .int .i64 kind, .int .i64 lit, .int .i64 gr, .int .i64 node, .int .i64 em, .int .i64 fu, .int .i64 er, .int .i64 dr, .int .i64 raw, .int .i64 days, .int .i64 mass] 27))
  clear K0
  obtain ⟨e0, he0⟩ : ∃ e0, chkL [⟨id, kind, lit, gr, node⟩] 16 64 = e0 := ⟨_, rfl⟩
  have HE0 := Lib.hid he0
  clear he0
  go_enter Try.func3, Try.ntmps3
  go_wp2_with fail
  obtain ⟨w0, hw0⟩ : ∃ w0, w.alloc (.cells #[.string id, .int .i64 kind, .int .i64 lit, .int .i64 gr, .int .i64 node, .int .i64 em, .int .i64 fu, .int .i64 er, .int .i64 dr, .int .i64 raw, .int .i64 days, .int .i64 mass] 27) = w0 := ⟨_, rfl⟩
  have hs0 : w0.heap.size = w.heap.size + 1 := by rw [← hw0]; simp
  rw [hw0] at HK0 HB0 ⊢
  clear hw0
  have hr1 := rcheck1 (w := w0) HE0.out HS.out
  rw [hs0] at hr1
  have HB1 := Lib.hid (HB0.out.alloc HB0.out.size (.cells #[.string id, .int .i64 kind, .int .i64 lit, .int .i64 gr, .int .i64 node] 23))
  have HK1 := Lib.hid (HK0.out.alloc (.cells #[.string id, .int .i64 kind, .int .i64 lit, .int .i64 gr, .int .i64 node] 23))
  refine hr1.mono ?_
  clear hr1
  rintro e w1 ⟨rfl, hb1⟩
  have hb1' : Below (w0.alloc (.cells #[.string id, .int .i64 kind, .int .i64 lit, .int .i64 gr, .int .i64 node] 23)).heap.size (w0.alloc (.cells #[.string id, .int .i64 kind, .int .i64 lit, .int .i64 gr, .int .i64 node] 23)) w1 := by simpa [hs0] using hb1
  have HB2 := Lib.hid (bthen HB1.out hb1' HB1.out.size)
  have HK2 := Lib.hid (HK1.out.grow hb1')
  obtain ⟨q0, q1, q2, q3, q4, q5, q6, q7, q8, q9, q10, q11⟩ := rdCells HK2.out
  have z2 := HK2.out.lt
  clear hb1 hb1' hs0
  by_cases h0 : e0 = 0
  · subst h0
    by_cases h1 : mass < 0
    · go_wp2_with fail
      refine (awake_any _).mono ?_
      rintro e w9 ⟨rfl, hb9⟩
      have HB9 := Lib.hid (bthen HB2.out hb9 HB2.out.size)
      clear hb9
      go_wp2
      go_ret
      exact ⟨rfl, HB9.out⟩
    by_cases h2 : gr < mass
    · go_wp2_with fail
      refine (awake_any _).mono ?_
      rintro e w9 ⟨rfl, hb9⟩
      have HB9 := Lib.hid (bthen HB2.out hb9 HB2.out.size)
      clear hb9
      go_wp2
      go_ret
      exact ⟨rfl, HB9.out⟩
    by_cases h3 : level < 1
    · go_wp2_with fail
      refine (awake_any _).mono ?_
      rintro e w9 ⟨rfl, hb9⟩
      have HB9 := Lib.hid (bthen HB2.out hb9 HB2.out.size)
      clear hb9
      go_wp2
      go_ret
      exact ⟨rfl, HB9.out⟩
    by_cases h4 : 1000 < level
    · go_wp2_with fail
      refine (awake_any _).mono ?_
      rintro e w9 ⟨rfl, hb9⟩
      have HB9 := Lib.hid (bthen HB2.out hb9 HB2.out.size)
      clear hb9
      go_wp2
      go_ret
      exact ⟨rfl, HB9.out⟩
    obtain ⟨_, _, g1, g2, _, _⟩ := con_ok HE0.out (List.mem_singleton.2 rfl)
    simp only at g1 g2
    obtain ⟨lo, hlo⟩ : ∃ lo, Fi.lvLo em fu er dr raw days = lo := ⟨_, rfl⟩
    obtain ⟨hi, hhi⟩ : ∃ hi, Fi.lvHi em fu er dr raw days = hi := ⟨_, rfl⟩
    obtain ⟨fe, hfe⟩ : ∃ fe, Fi.lvE em fu er dr raw days = fe := ⟨_, rfl⟩
    obtain ⟨tv, htv⟩ : ∃ tv, levV gr mass = tv := ⟨_, rfl⟩
    have hte : levE gr mass = 0 := levE_in g1 g2 (by omega) (by omega)
    have HLO := Lib.hid hlo
    have HHI := Lib.hid hhi
    have HFE := Lib.hid hfe
    have HTV := Lib.hid htv
    have HTE := Lib.hid hte
    clear hlo hhi hfe htv hte
    go_wp2_with fail
    refine (flev_val HLO.out HHI.out HFE.out _).mono ?_
    rintro e w3 ⟨rfl, hb3⟩
    have HB3 := Lib.hid (bthen HB2.out hb3 HB2.out.size)
    have HK3 := Lib.hid (HK2.out.grow hb3)
    clear hb3 q0 q1 q2 q3 q4 q5 q6 q7 q8 q9 q10 q11 z2
    have KS := Blk.new w3 33 #[.int .i64 lo, .int .i64 hi]
    have HK4 := Lib.hid (HK3.out.alloc (.cells #[.int .i64 lo, .int .i64 hi] 33))
    have HB4 := Lib.hid (HB3.out.alloc HB3.out.size (.cells #[.int .i64 lo, .int .i64 hi] 33))
    obtain ⟨sb, hsb⟩ : ∃ sb, w3.heap.size = sb := ⟨_, rfl⟩
    rw [hsb] at KS
    obtain ⟨w4, hw4⟩ : ∃ w4, w3.alloc (.cells #[.int .i64 lo, .int .i64 hi] 33) = w4 := ⟨_, rfl⟩
    rw [hw4] at KS HK4 HB4
    have HKS := Lib.hid KS
    have HW4 := Lib.hid hw4
    have HSB := Lib.hid hsb
    clear KS hw4 hsb
    have z3 := HK3.out.lt
    obtain ⟨q0, q1, q2, q3, q4, q5, q6, q7, q8, q9, q10, q11⟩ := rdCells HK3.out
    go_wp2_with fail
    rw [HW4.out, HSB.out]
    refine (level_val HTV.out HTE.out _).mono ?_
    rintro e w5' ⟨rfl, rfl⟩
    have HK5 := Lib.hid (HK4.out.alloc (.cells #[.string id, .int .i64 kind, .int .i64 lit, .int .i64 gr, .int .i64 node] 23))
    have HKS5 := Lib.hid (HKS.out.alloc (.cells #[.string id, .int .i64 kind, .int .i64 lit, .int .i64 gr, .int .i64 node] 23))
    have HB5 := Lib.hid (HB4.out.alloc HB4.out.size (.cells #[.string id, .int .i64 kind, .int .i64 lit, .int .i64 gr, .int .i64 node] 23))
    obtain ⟨w5, hw5⟩ : ∃ w5, w4.alloc (.cells #[.string id, .int .i64 kind, .int .i64 lit, .int .i64 gr, .int .i64 node] 23) = w5 := ⟨_, rfl⟩
    rw [hw5] at HK5 HKS5 HB5 ⊢
    clear hw5 HW4 HSB HK4 HKS HB4 HB3 HK3 q0 q1 q2 q3 q4 q5 q6 q7 q8 q9 q10 q11 z3
    obtain ⟨q0, q1, q2, q3, q4, q5, q6, q7, q8, q9, q10, q11⟩ := rdCells HK5.out
    have s0 := HKS5.out.cell 0
    have s1 := HKS5.out.cell 1
    simp at s0 s1
    have z5 := HK5.out.lt
    have zs := HKS5.out.lt
    by_cases hf0 : fe = 0
    · subst hf0
      by_cases k1 : tv < lo
      · go_wp2_with fail
        refine (awake_any _).mono ?_
        rintro e w9 ⟨rfl, hb9⟩
        have HB9 := Lib.hid (bthen HB5.out hb9 HB5.out.size)
        clear hb9
        go_wp2
        go_ret
        exact ⟨rfl, HB9.out⟩
      by_cases k2 : hi < tv
      · go_wp2_with fail
        refine (awake_any _).mono ?_
        rintro e w9 ⟨rfl, hb9⟩
        have HB9 := Lib.hid (bthen HB5.out hb9 HB5.out.size)
        clear hb9
        go_wp2
        go_ret
        exact ⟨rfl, HB9.out⟩
      obtain ⟨r1, r2⟩ := Fi.lv_range HFE.out
      rw [HLO.out] at r1
      rw [HHI.out] at r2
      obtain ⟨m1, m2, m3⟩ := Fi.sound2 (g := gr) (x := mass) (lo := lo) (hi := hi) HTE.out (by omega) (by rw [HTV.out]; omega) (by rw [HTV.out]; omega) r1 r2
      obtain ⟨p1, p2, p3⟩ := Fi.mass_hi m1
      obtain ⟨mlo, hmlo⟩ : ∃ mlo, Fi.massLo gr lo hi = mlo := ⟨_, rfl⟩
      obtain ⟨mhi, hmhi⟩ : ∃ mhi, Fi.massHi gr lo hi = mhi := ⟨_, rfl⟩
      rw [hmlo] at m2 p1 p2
      rw [hmhi] at m3 p2 p3
      have HML := Lib.hid hmlo
      have HMH := Lib.hid hmhi
      have HME := Lib.hid m1
      clear hmlo hmhi m1
      go_wp2_with fail
      refine (fmass_val HML.out HMH.out HME.out _ _ _ _ _).mono ?_
      rintro e w6 ⟨rfl, hb6⟩
      have HB6 := Lib.hid (bthen HB5.out hb6 HB5.out.size)
      have HK6 := Lib.hid (HK5.out.grow hb6)
      clear hb6 q0 q1 q2 q3 q4 q5 q6 q7 q8 q9 q10 q11 z5 s0 s1 zs
      have KM := Blk.new w6 33 #[.int .i64 mlo, .int .i64 mhi]
      have HK7 := Lib.hid (HK6.out.alloc (.cells #[.int .i64 mlo, .int .i64 mhi] 33))
      have HB7 := Lib.hid (HB6.out.alloc HB6.out.size (.cells #[.int .i64 mlo, .int .i64 mhi] 33))
      have z6 := HK6.out.lt
      obtain ⟨q0, q1, q2, q3, q4, q5, q6, q7, q8, q9, q10, q11⟩ := rdCells HK6.out
      by_cases hl : tv < level
      · go_wp2_with fail
        refine (awake_any _).mono ?_
        rintro e w9 ⟨rfl, hb9⟩
        have HB9 := Lib.hid (bthen HB7.out hb9 HB7.out.size)
        clear hb9
        go_wp2
        go_ret
        exact ⟨rfl, HB9.out⟩
      obtain ⟨me, ml⟩ := top_make (c := ⟨id, kind, lit, gr, node⟩) (lo := mlo) (hi := mhi) (level := level) (mass := mass) HE0.out p1 p2 p3 (by omega) (by omega) HTE.out (by rw [HTV.out]; omega) m3
      simp only at ml
      have HMK := Lib.hid me
      have HLK := Lib.hid ml
      have hd : i64ok 0 := ⟨by decide, by decide⟩
      have HD := Lib.hid hd
      clear me ml hd
      obtain ⟨w7, hw7⟩ : ∃ w7, w6.alloc (.cells #[.int .i64 mlo, .int .i64 mhi] 33) = w7 := ⟨_, rfl⟩
      have hs7 : w7.heap.size = w6.heap.size + 1 := by rw [← hw7]; simp
      have hti := topIn w7 (lo := mlo) (hi := mhi) HOK.out
      rw [hs7, ← hw7] at hti
      have HTI := Lib.hid hti
      have HBT := Lib.hid ((HB7.out.alloc HB7.out.size (.cells #[.string id, .int .i64 kind, .int .i64 lit, .int .i64 gr, .int .i64 node] 23)).alloc (by have := HB7.out.size; simp; omega) (.cells #[.int .i64 0, .int .i64 mlo, .int .i64 mhi] 43))
      have HKT := Lib.hid ((HK7.out.alloc (.cells #[.string id, .int .i64 kind, .int .i64 lit, .int .i64 gr, .int .i64 node] 23)).alloc (.cells #[.int .i64 0, .int .i64 mlo, .int .i64 mhi] 43))
      clear hti hs7 hw7
      go_wp2_with fail
      refine (make_val HMK.out HLK.out HTI.out HD.out).mono ?_
      rintro e w8 ⟨A, c, rfl, hcap, hr, hb8⟩
      have HB8 := Lib.hid (bthen HBT.out hb8 HBT.out.size)
      have HK8 := Lib.hid (HKT.out.grow hb8)
      obtain ⟨bL, oL, rfl, hbL, hcl⟩ := hr.2 (by simp)
      have l0 := hcl 0 _ rfl 0 _ rfl
      have l3 := hcl 0 _ rfl 3 _ rfl
      simp at l0 l3
      clear hb8 hcl hr hcap q0 q1 q2 q3 q4 q5 q6 q7 q8 q9 q10 q11 z6
      obtain ⟨q0, q1, q2, q3, q4, q5, q6, q7, q8, q9, q10, q11⟩ := rdCells HK8.out
      have z8 := HK8.out.lt
      have HS8 : Hid (∀ W, Below w8.heap.size w8 W → (W.cell? ⟨bL, oL, none⟩ = some (.int .i64 0) ∧ W.cell? ⟨bL, oL + 3, none⟩ = some (.int .i64 mhi) ∧ W.cell? ⟨w.heap.size, 11, none⟩ = some (.int .i64 mass))) := Lib.hid (fun W hW => ⟨(hW.cell hbL).trans l0, (hW.cell hbL).trans l3, (hW.cell z8).trans q11⟩)
      have HRF := Lib.hid (Below.refl w8.heap.size w8)
      have HBN := Lib.hid HRF.out.drew
      go_wp2_with fail
      go_region_held3 (fun W => W.cell? ⟨bL, oL, none⟩ = some (.int .i64 0) ∧ W.cell? ⟨bL, oL + 3, none⟩ = some (.int .i64 mhi) ∧ W.cell? ⟨w.heap.size, 11, none⟩ = some (.int .i64 mass))
        (first | with_reducible exact HS8.out _ HBN.out | with_reducible exact HS8.out _ HRF.out)
        (first
          | (go_at_call 5; refine (awake_any _).mono ?_; rintro e wN ⟨rfl, hbN⟩; have HBN := Lib.hid (bthen HBN.out hbN HBN.out.size); clear hbN))
      go_wp2
      go_ret
      exact ⟨rfl, bthen HB8.out HBN.out HB8.out.size⟩
    · have hfq : (fe != 0) = true := by simpa using hf0
      clear hf0
      go_wp2_with fail
      refine (awake_any _).mono ?_
      rintro e w9 ⟨rfl, hb9⟩
      have HB9 := Lib.hid (bthen HB5.out hb9 HB5.out.size)
      clear hb9
      go_wp2
      go_ret
      exact ⟨rfl, HB9.out⟩
  · have hq : (e0 != 0) = true := by simpa using h0
    clear h0
    go_wp2_with fail
    refine (awake_any _).mono ?_
    rintro e w9 ⟨rfl, hb9⟩
    have HB9 := Lib.hid (bthen HB2.out hb9 HB2.out.size)
    clear hb9
    go_wp2
    go_ret
    exact ⟨rfl, HB9.out⟩

theorem own : ownKnob Try.prog.godebug = none := by kernel_rfl
theorem laidOut : laidOutB Try.prog = true := by kernel_rfl
set_option maxRecDepth 100000 in
theorem lifted (os : Os) (started : os.Started) (H : Type) (enc : TypeId × Value → H) :
    ReturnsInHanded {} Try.checked os 3 .any (Rows.topSensorsDemandSpec.pre6 enc Try.prog Try.f3 Rows.topSensorsDemandRow.domain false) (Rows.topSensorsDemandSpec.post enc Try.prog Try.f3 false true false false) := by
  refine returnsInHanded_of_change (C := Try.checked) own started (by kernel_rfl) Try.func3
    (ChangeSpec.witness6 (enc := enc) (C := Try.checked) false ⟨#[], #[.agg #[.string ⟨#[]⟩, .int .i64 0, .int .i64 0, .int .i64 0, .int .i64 0, .int .i64 0, .int .i64 0, .int .i64 0, .int .i64 0, .int .i64 0, .int .i64 0, .int .i64 0], .int .i64 0], []⟩ 8 (by kernel_rfl) (by kernel_rfl) (by kernel_rfl) (by kernel_rfl)) ?_
  intro W base args ds gs before hval0 hW hcnd _
  have hval : ∀ (j : Nat) t v, Try.f3.params[j]? = some t → args[j]? = some v → Value.okWide Try.prog W .any base t v := hval0
  have hW' := hW
  obtain ⟨p, q, hA0, hV, rfl, hfz, hnd⟩ := hW
  have hA : DataW.TrodAll enc Try.prog W 0 (fun _ => true) true Try.f3.params.toList args.toList ds p := hA0
  rw [Try.params3] at hA hval
  obtain ⟨v0, vs0, d0, ds0, p0, q0, hargs, rfl, rfl, h0, r0⟩ := trodAll_cons hA
  obtain ⟨v1, vs1, d1, ds1, p1, q1, rfl, rfl, rfl, h1, r1⟩ := trodAll_cons r0
  obtain ⟨rfl, rfl, rfl⟩ := trodAll_nil r1
  obtain rfl : args = #[v0, v1] := by cases args; simp_all
  obtain ⟨rfl, rfl⟩ := trodVars_none hV
  have k0 := h0
  have lt0 : ∀ x ∈ p0, x.block < W.heap.size := by obtain ⟨m, hm⟩ := k0; exact DataW.trod_lt m _ _ _ hm
  have O0 := open_read W (hval 0 27 v0 rfl rfl) h0
  have k1 := h1
  have lt1 : ∀ x ∈ p1, x.block < W.heap.size := by obtain ⟨m, hm⟩ := k1; exact DataW.trod_lt m _ _ _ hm
  have O1 := open_int W (hval 1 3 v1 rfl rfl) h1
  clear hA0 hval0
  refine (walk W v0 O0 v1 O1).mono fun e W' ⟨he, bel⟩ => ?_
  subst he
  exact ⟨_, rfl, _, _, _, [], _, [], hW', trodAll_mk1 (shut_bool Try.underlying4 _), (trodAll_cons_mk (Below.trod laidOut (by kernel_rfl) (of_decide_eq_true (by kernel_rfl)) k0 bel lt0) (trodAll_cons_mk (Below.trod laidOut (by kernel_rfl) (of_decide_eq_true (by kernel_rfl)) k1 bel lt1) trodAll_mk0)), rfl, bel.frame _, fun h => by cases h⟩
theorem over : Rows.topSensorsDemandRow.holds Try.pinned (OpenSpec.ofChange Rows.topSensorsDemandSpec) :=
  OpenClaim.holds_of_wide 3 Try.f3 rfl rfl rfl rfl rfl rfl rfl ⟨rfl, rfl, rfl, rfl, rfl⟩ rfl rfl rfl rfl rfl (by kernel_rfl) Try.func3 (by kernel_rfl)
    (of_decide_eq_true (by kernel_rfl)) (by unfold Func.isWrapper; first | (rw [if_pos (by decide +kernel)]; kernel_rfl) | (rw [if_neg (by decide +kernel)]; exact ⟨rfl, rfl⟩))
    (fun os started H enc _ => lifted os started H enc)
theorem proved : Rows.TopSensorsDemandSaid := over
#print axioms proved

end Go.Proofs.Ytmkbgjilkdbmiaa.topSensorsDemand
