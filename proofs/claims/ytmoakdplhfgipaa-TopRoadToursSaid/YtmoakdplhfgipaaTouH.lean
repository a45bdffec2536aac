/- Tours: follow. -/
import Derived.Test.YtmoakdplhfgipaaTouG
import Derived.WalkMore
namespace Go.Proofs.Ytmoakdplhfgipaa
set_option maxRecDepth 20000
open Go.RowKit Go.Maps

/-- the same with another vehicle -/
def WPar.on (X : WPar) (v : Veh) : WPar := { X with v := v }
/-- the tour of a vehicle is feasible -/
def GoodT (X : WPar) (vi : Int) (S : List Int) : Prop := 0 ≤ vi ∧ ∃ v, X.V[vi.toNat]? = some v ∧ ∃ r, tourP (X.on v) S = some r
abbrev PrbA (X : WPar) : Array Value := #[.int .i64 (X.N : Int), .slice X.AE X.nE X.cE, .slice X.AV X.nV X.cV, .slice X.AD X.nD X.cD, .int .i64 X.un, .int .i64 X.us]
/-- the problem in memory -/
abbrev PInX (w : World) (X : WPar) : Prop := PIn w X.AE X.nE X.E X.AV X.nV X.V X.AD X.nD X.cD X.D
def FolQ (w : World) (X : WPar) (vi : Int) (S : List Int) (e : Ending) (w' : World) : Prop :=
  (∃ v p vs wb nm w3, 0 ≤ vi ∧ X.V[vi.toNat]? = some v ∧ tourP (X.on v) S = some (p, vs) ∧ e = .returned (.tuple #[.pointer (some ⟨wb, 0, none⟩), .int .i64 0, .int .i64 0]) ∧ TSx w3 w' (X.on v) wb p vs nm ∧ Below w.heap.size w w' ∧ Below w.heap.size w w3) ∨
  (¬ GoodT X vi S ∧ (∃ c a : Int, e = .returned (.tuple #[.pointer none, .int .i64 c, .int .i64 a]) ∧ c ≠ 0) ∧ Below w.heap.size w w')
theorem runP_step {X : WPar} {S : List Int} {k : Nat} {s : Int} {p : Plc} {vs : List Vis} (h : S[k]? = some s) : runP X (S.take k) (S.drop k) p vs = match stepP X p (S.take k) s with
    | none => none
    | some (p', v) => runP X (S.take (k + 1)) (S.drop (k + 1)) p' (vs ++ [v]) := by
  have hk : k < S.length := (List.getElem?_eq_some_iff.1 h).1
  have e1 : S.drop k = s :: S.drop (k + 1) := by
    rw [List.drop_eq_getElem_cons hk]
    rw [List.getElem?_eq_getElem hk] at h
    injection h with h
    rw [h]
  rw [e1, List.take_add_one, h]
  rfl
theorem serve_any {w0 w : World} {X : WPar} {wb nm i : Nat} {p : Plc} {vs : List Vis} {vi : Int} {A : Option Addr} {n c k : Nat} {S : List Int} {s : Int} (h : TSx w0 w X wb p vs nm) (hX : WOk X) (hp : PlB X i p) (hi : i ≤ 100) (hnm : nm ≤ 1000) (hvs : vs.length ≤ 1000) (hS : RdS w0 (· < w0.heap.size) A n (zs S)) (hn : n ≤ 40) (hc : n ≤ c) (hk : k < n) (hs : S[k]? = some s) :
    Calls Try.prog 30 #[.pointer (some ⟨wb, 0, none⟩), .agg #[.int .i64 vi, .slice A n c], .int .i64 (k : Int)] w fun e w' => StepQ w0 X wb nm vs (stepP X p (S.take k) s) e w' := by
  by_cases e : s = -1
  · subst e
    have h1 : stepP X p (S.take k) (-1) = stepU X p := by unfold stepP; rw [if_pos rfl]
    rw [h1]
    exact serve_un h hX hp hi hnm hvs hS hk hs
  · exact serve_dm h hX hp hi hnm hvs hS hn hc hk hs e
theorem makeMap_any (w : World) : (Instr.makeMap 65 none).run Try.prog w = .ok (.map (some w.heap.size)) (w.alloc (.map #[] 0)) := by
  first | rfl | kernel_rfl | simp [Instr.makeMap]
set_option maxRecDepth 100000 in
set_option maxHeartbeats 12800000 in
theorem follow_any {w : World} {X : WPar} {vi : Int} {A : Option Addr} {n c : Nat} {S : List Int} (hP : PInX w X) (hS : RdS w (· < w.heap.size) A n (zs S)) (hn : n ≤ 40) (hc : n ≤ c) (hX : ∀ v ∈ X.V, WOk (X.on v)) :
    Calls Try.prog 15 #[.agg (PrbA X), .agg #[.int .i64 vi, .slice A n c]] w fun e w' => FolQ w X vi S e w' := by
  have hl := hS.1
  rw [zs_len] at hl
  have kp := Blk.new w 28 (PrbA X)
  have kt := Blk.new1 w (.cells (PrbA X) 28) 34 #[.int .i64 vi, .slice A n c]
  have kp1 := kp.alloc (.cells #[.int .i64 vi, .slice A n c] 34)
  have hb1 : Below w.heap.size w ((w.alloc (.cells (PrbA X) 28)).alloc (.cells #[.int .i64 vi, .slice A n c] 34)) := by go_grown
  obtain ⟨w1, hw1⟩ : ∃ w1, (w.alloc (.cells (PrbA X) 28)).alloc (.cells #[.int .i64 vi, .slice A n c] 34) = w1 := ⟨_, rfl⟩
  rw [hw1] at kt kp1 hb1
  have p2 := kp1.cell 2
  have t0 := kt.cell 0
  have t1 := kt.cell 1
  simp at p2 t0 t1
  have HP := Lib.hid hP
  have HS := Lib.hid hS
  have HX := Lib.hid hX
  have HB1 := Lib.hid hb1
  have KP := Lib.hid kp1
  have KT := Lib.hid kt
  have hvl := hP.v.1
  clear hP hS hX kp kt kp1 hb1
  go_enter Try.func15, Try.ntmps15
  by_cases g0 : vi < 0
  · have HNG : Hid (¬ GoodT X vi S) := Lib.hid (fun h => by have := h.1; omega)
    go_wp2_with fail
    go_step3
    go_wp2_with fail
    rw [Exit.noGoto_ret]
    refine bodyPost_ret (v := .tuple #[.pointer none, .int .i64 7, .int .i64 0]) (by simp [results, Try.results15, go_sem]) rfl (.inr ⟨HNG.out, ⟨7, 0, rfl, by decide⟩, HB1.out⟩)
  · have g0d : decide (vi < 0) = false := by simpa using g0
    by_cases g1 : (X.nV : Int) ≤ vi
    · have HNG : Hid (¬ GoodT X vi S) := Lib.hid (fun h => by
        obtain ⟨_, v, hv, _⟩ := h
        rw [List.getElem?_eq_none (by omega)] at hv
        cases hv)
      go_wp2_with fail
      go_step3
      go_wp2_with fail
      rw [Exit.noGoto_ret]
      refine bodyPost_ret (v := .tuple #[.pointer none, .int .i64 7, .int .i64 0]) (by simp [results, Try.results15, go_sem]) rfl (.inr ⟨HNG.out, ⟨7, 0, rfl, by decide⟩, HB1.out⟩)
    · have g1d : decide (vi ≥ (X.nV : Int)) = false := by simp; omega
      obtain ⟨m, rfl⟩ : ∃ m : Nat, vi = (m : Int) := ⟨vi.toNat, by omega⟩
      have g1e : ¬ X.nV ≤ m := by omega
      obtain ⟨v, hv⟩ := at_lt (l := X.V) (k := m) (by omega)
      obtain ⟨bV, oV, eV, hbV, _⟩ := HP.out.v.2 (by omega)
      have hrv := HP.out.v
      rw [eV] at p2 hrv
      have hvc := (hrv.cells_ (k := m) (by omega) hv HB1.out).2
      have v0 := hvc 0 _ rfl
      rw [Nat.add_zero] at v0
      have v1 := hvc 1 _ rfl
      have v2 := hvc 2 _ rfl
      have v3 := hvc 3 _ rfl
      have v4 := hvc 4 _ rfl
      have v5 := hvc 5 _ rfl
      have HV := Lib.hid hv
      have HWO := Lib.hid (HX.out v (List.mem_of_getElem? hv))
      have HAV := Lib.hid eV
      clear hvc hrv hv eV
      obtain ⟨id, depot, from_, to2, gr, kinds⟩ := v
      simp only at v0 v1 v2 v3 v4 v5
      have kv := Blk.new w1 46 #[.string id, .int .i64 depot, .int .i64 from_, .int .i64 to2, .int .i64 gr, .int .i64 kinds]
      have hb3 : Below w1.heap.size w1 (w1.alloc (.cells #[.string id, .int .i64 depot, .int .i64 from_, .int .i64 to2, .int .i64 gr, .int .i64 kinds] 46)) := by go_grown
      obtain ⟨w3, hw3⟩ : ∃ w3, w1.alloc (.cells #[.string id, .int .i64 depot, .int .i64 from_, .int .i64 to2, .int .i64 gr, .int .i64 kinds] 46) = w3 := ⟨_, rfl⟩
      obtain ⟨vb, hvb⟩ : ∃ vb, w1.heap.size = vb := ⟨_, rfl⟩
      rw [hw3] at kv hb3
      rw [hvb] at kv
      have k3 := KP.out.grow hb3
      have kt3 := KT.out.grow hb3
      have x0 := kv.cell 0
      have x1 := kv.cell 1
      have x2 := kv.cell 2
      have x3 := kv.cell 3
      have x4 := kv.cell 4
      have x5 := kv.cell 5
      have y0 := k3.cell 0
      have y1 := k3.cell 1
      have y2 := k3.cell 2
      have y3 := k3.cell 3
      have y4 := k3.cell 4
      have y5 := k3.cell 5
      simp at x0 x1 x2 x3 x4 x5 y0 y1 y2 y3 y4 y5
      have hmm := makeMap_any w3
      have hb4 : Below w3.heap.size w3 ((w3.alloc (.map #[] 0)).alloc (.cells (WA ⟨depot, from_, 0, 0⟩ (X.on ⟨id, depot, from_, to2, gr, kinds⟩) w3.heap.size (.slice none 0 0)) 67)) := by go_grown
      have hz4 : (w3.alloc (.map #[] 0)).heap.size = w3.heap.size + 1 := by simp
      have hts : TS w3 ((w3.alloc (.map #[] 0)).alloc (.cells (WA ⟨depot, from_, 0, 0⟩ (X.on ⟨id, depot, from_, to2, gr, kinds⟩) w3.heap.size (.slice none 0 0)) 67)) (X.on ⟨id, depot, from_, to2, gr, kinds⟩) (w3.heap.size + 1) w3.heap.size ⟨depot, from_, 0, 0⟩ (.slice none 0 0) [] (fun _ => none) 0 :=
        ⟨Blk.new_at _ _ _ hz4, (Ml.made w3).alloc _, World.ownsRow_nil _ _ _ _, fun k v h => absurd h (by simp), HP.out.up (bthen HB1.out hb3 HB1.out.size), hb4, by omega, Nat.le_refl _⟩
      obtain ⟨w5, hw5⟩ : ∃ w5, (w3.alloc (.map #[] 0)).alloc (.cells (WA ⟨depot, from_, 0, 0⟩ (X.on ⟨id, depot, from_, to2, gr, kinds⟩) w3.heap.size (.slice none 0 0)) 67) = w5 := ⟨_, rfl⟩
      rw [hw5] at hts hb4
      have HTS : Hid (TSx w3 w5 (X.on ⟨id, depot, from_, to2, gr, kinds⟩) (w3.heap.size + 1) ⟨depot, from_, 0, 0⟩ [] 0) := Lib.hid ⟨_, _, _, hts⟩
      have HB3 := Lib.hid (bthen HB1.out hb3 HB1.out.size)
      have HT3 := Lib.hid kt3
      have HS3 : Hid (RdS w3 (· < w3.heap.size) A n (zs S)) := Lib.hid (HS.out.up (bthen HB1.out hb3 HB1.out.size))
      have h40 : decide ((40 : Int) < (n : Int)) = false := by simp; omega
      clear kv hb3 k3 kt3 hts hb4
      unfold WA WPar.on at hw5
      simp only at hw5
      go_wp2_with fail
      go_step3
      go_wp2_with fail
      go_step3
      clear hw5 hw3 hvb hw1 hmm x0 x1 x2 x3 x4 x5 y0 y1 y2 y3 y4 y5 v0 v1 v2 v3 v4 v5 t0 t1 p2 hz4
      obtain ⟨wb, hwb⟩ : ∃ wb, w3.heap.size + 1 = wb := ⟨_, rfl⟩
      obtain ⟨v, hv⟩ : ∃ v : Veh, ⟨id, depot, from_, to2, gr, kinds⟩ = v := ⟨_, rfl⟩
      have HDE : Hid ((⟨depot, from_, 0, 0⟩ : Plc) = ⟨v.depot, v.from_, 0, 0⟩) := Lib.hid (by rw [← hv])
      rw [HDE.out] at HTS
      rw [hwb] at HTS ⊢
      rw [hv] at HTS HWO HV
      clear hv hwb
      obtain ⟨Y, hY⟩ : ∃ Y, X.on v = Y := ⟨_, rfl⟩
      have HYE := Lib.hid hY
      rw [hY] at HTS HWO
      have HYD : Hid ((⟨v.depot, v.from_, 0, 0⟩ : Plc) = ⟨Y.v.depot, Y.v.from_, 0, 0⟩) := Lib.hid (by rw [← hY]; rfl)
      rw [HYD.out] at HTS
      clear hY
      have HPB : Hid (PlB Y 0 ⟨Y.v.depot, Y.v.from_, 0, 0⟩) := Lib.hid ⟨HWO.out.d0, HWO.out.d1, HWO.out.f0, by have := HWO.out.f1; simp only; omega, by simp, by simp, by simp, by simp⟩
      have HRP : Hid (tourP Y S = match runP Y (S.take 0) (S.drop 0) ⟨Y.v.depot, Y.v.from_, 0, 0⟩ [] with
        | none => none
        | some (p, vs) => backP Y p vs) := Lib.hid (by rw [List.take_zero, List.drop_zero]; rfl)
      go_wp2_with fail
      go_loopw [9, 10] (fun s9 s10 wr => ∃ (k : Nat) (p : Plc) (vs : List Vis), s9 = .int .i64 0 ∧ s10 = .int .i64 (k : Nat) ∧ k ≤ n ∧ TSx w3 wr Y wb p vs k ∧ PlB Y k p ∧ vs.length = k ∧ tourP Y S = match runP Y (S.take k) (S.drop k) p vs with
        | none => none
        | some (p, vs) => backP Y p vs) (fun _ s10 _ => n - (intOf s10).toNat)
      case atStart => exact ⟨0, _, _, rfl, rfl, Nat.zero_le _, HTS.out, HPB.out, rfl, HRP.out⟩
      case round =>
        obtain ⟨k, p, vs, rfl, rfl, hk, hts, hpb, hvs, hrp⟩ := hrel
        have HT := Lib.hid hts
        have HPL := Lib.hid hpb
        have HRU := Lib.hid hrp
        have kt := HT3.out.grow hts.bel
        have t0 := kt.cell 0
        have t1 := kt.cell 1
        simp at t0 t1
        clear hts hpb hrp kt
        by_cases hlt : k < n
        · obtain ⟨s, hs⟩ := at_lt (l := S) (k := k) (by rw [hl]; exact hlt)
          have HSV := Lib.hid (serve_any (vi := (m : Int)) (c := c) HT.out HWO.out HPL.out (by omega) (by omega) (by omega) HS3.out hn hc hlt hs)
          have HST := Lib.hid hs
          clear hs
          go_wp2_with fail
          refine HSV.out.mono ?_
          rintro e w6 hq
          cases hst : stepP Y p (S.take k) s with
          | none =>
            rw [hst] at hq
            obtain ⟨⟨ec, rfl, hec⟩, hb6⟩ := hq
            have hru := HRU.out
            rw [runP_step HST.out, hst] at hru
            simp only at hru
            have HNG : Hid (¬ GoodT X (m : Int) S) := Lib.hid (fun h => by
              obtain ⟨_, v', hv', r, hr⟩ := h
              rw [Int.toNat_natCast, HV.out] at hv'
              injection hv' with hv'
              rw [← hv', HYE.out, hru] at hr
              cases hr)
            have HB6 := Lib.hid (bthen HB3.out hb6 HB3.out.size)
            have hec1 : (ec == 0) = false := by simpa using hec
            have HEC := Lib.hid hec
            clear hru hst hb6 hec
            go_wp2_with fail
            rw [Exit.noGoto_ret]
            refine bodyPost_ret (v := .tuple #[.pointer none, .int .i64 ec, .int .i64 (k : Int)]) (by simp [results, Try.results15, go_sem]) rfl (.inr ⟨HNG.out, ⟨ec, k, rfl, HEC.out⟩, HB6.out⟩)
          | some q =>
            obtain ⟨p', v'⟩ := q
            rw [hst] at hq
            obtain ⟨rfl, h6⟩ := hq
            have hru := HRU.out
            rw [runP_step HST.out, hst] at hru
            simp only at hru
            have HRU2 := Lib.hid hru
            have HPL2 := Lib.hid (stepP_bnd HWO.out HPL.out hst)
            have H6 := Lib.hid h6
            clear hru hst h6
            go_wp2_with fail
            go_roundw
            case rel => first | exact ⟨k + 1, p', vs ++ [v'], rfl, by go_num, by omega, H6.out, HPL2.out, by rw [List.length_append, hvs]; rfl, HRU2.out⟩ | ((repeat apply Exists.intro); exact ⟨⟨k + 1, p', vs ++ [v'], rfl, by go_num, by omega, H6.out, HPL2.out, by rw [List.length_append, hvs]; rfl, HRU2.out⟩, rfl⟩)
            case measure => simp [intOf]; omega
        · have e : k = n := by omega
          subst e
          have hru := HRU.out
          rw [List.drop_eq_nil_of_le (by omega)] at hru
          have HRU2 : Hid (tourP Y S = backP Y p vs) := Lib.hid hru
          have HBK := Lib.hid (back_any HT.out HWO.out HPL.out (by omega) (by omega) (by omega))
          clear hru
          go_wp2_with fail
          refine HBK.out.mono ?_
          rintro e w6 hq
          cases hbk : backP Y p vs with
          | none =>
            rw [hbk] at hq
            obtain ⟨⟨ec, rfl, hec⟩, hb6⟩ := hq
            have HNG : Hid (¬ GoodT X (m : Int) S) := Lib.hid (fun h => by
              obtain ⟨_, v', hv', r, hr⟩ := h
              rw [Int.toNat_natCast, HV.out] at hv'
              injection hv' with hv'
              rw [← hv', HYE.out, HRU2.out, hbk] at hr
              cases hr)
            have HB6 := Lib.hid (bthen HB3.out hb6 HB3.out.size)
            have hec1 : (ec == 0) = false := by simpa using hec
            have HEC := Lib.hid hec
            clear hbk hb6 hec
            go_wp2_with fail
            rw [Exit.noGoto_ret]
            refine bodyPost_ret (v := .tuple #[.pointer none, .int .i64 ec, .int .i64 (k : Int)]) (by simp [results, Try.results15, go_sem]) rfl (.inr ⟨HNG.out, ⟨ec, k, rfl, HEC.out⟩, HB6.out⟩)
          | some q =>
            obtain ⟨p', vs'⟩ := q
            rw [hbk] at hq
            obtain ⟨rfl, h6⟩ := hq
            have HR6 : Hid (tourP (X.on v) S = some (p', vs')) := Lib.hid (by rw [HYE.out, HRU2.out, hbk])
            have h6' := h6
            rw [← HYE.out] at h6'
            have H6 := Lib.hid h6'
            have HB6 := Lib.hid (bthen HB3.out h6.bel HB3.out.size)
            clear hbk h6 h6'
            go_wp2_with fail
            rw [Exit.noGoto_ret]
            refine bodyPost_ret (v := .tuple #[.pointer (some ⟨wb, 0, none⟩), .int .i64 0, .int .i64 0]) (by simp [results, Try.results15, go_sem]) rfl (.inl ⟨v, p', vs', wb, _, w3, by omega, by rw [Int.toNat_natCast]; exact HV.out, HR6.out, rfl, H6.out, HB6.out, HB3.out⟩)
end Go.Proofs.Ytmoakdplhfgipaa
