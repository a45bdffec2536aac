/- Contract of road.spread: the fastest legs. -/
import Derived.Test.YtmoakdplhfgipaaSprA
namespace Go.Proofs.Ytmoakdplhfgipaa
set_option maxRecDepth 20000
open Go.RowKit Go.Maps

set_option maxRecDepth 100000 in
set_option maxHeartbeats 6400000 in
theorem spread_any {w : World} {A : Option Addr} {N nE cE : Nat} {E : List Edg} {a : Nat} (h : RdT w (· < w.heap.size) 4 Edg.cs A nE E) (hE : EdgesOk N E) (hN : N ≤ 10) (hn : nE ≤ 60) (ha : a < N) :
    Calls Try.prog 17 #[.agg #[.int .i64 (N : Int), .slice A nE cE], .int .i64 (a : Int), .func (.func 18) #[] #[]] w fun e w' => ∃ b out, e = .returned (.slice (some ⟨b, 0, none⟩) N N) ∧ w.heap.size ≤ b ∧ OutB w' b out ∧ IsLegs N E (a : Int) out ∧ Below w.heap.size w w' := by
  have hlen := h.1
  have k0 := Blk.new w 24 #[.int .i64 (N : Int), .slice A nE cE]
  have hb0 : Below w.heap.size w (w.alloc (.cells #[.int .i64 (N : Int), .slice A nE cE] 24)) := by go_grown
  have HB0 := Lib.hid hb0
  have hz0 : (w.alloc (.cells #[.int .i64 (N : Int), .slice A nE cE] 24)).heap.size = w.heap.size + 1 := by simp
  obtain ⟨w0, hw0⟩ : ∃ w0, w.alloc (.cells #[.int .i64 (N : Int), .slice A nE cE] 24) = w0 := ⟨_, rfl⟩
  rw [hw0] at k0 HB0 hz0
  clear hb0
  have K0 := Lib.hid k0
  have q0 := k0.cell 0
  have q1 := k0.cell 1
  simp at q0 q1
  have HL := Lib.hid hlen
  have HM := Lib.hid h
  have HE := Lib.hid hE
  clear h hlen hE k0
  go_enter Try.func17, Try.ntmps17
  have hmk := run_make_legs N hN w0
  have hb1 : Below w0.heap.size w0 (w0.alloc (.cells (flR Lg.cs (List.replicate N ⟨0, 0⟩)).toArray 50)) := by go_grown
  have ho1 : OutB (w0.alloc (.cells (flR Lg.cs (List.replicate N ⟨0, 0⟩)).toArray 50)) w0.heap.size (List.replicate N ⟨0, 0⟩) := Blk.new _ _ _
  obtain ⟨w1, hw1⟩ : ∃ w1, w0.alloc (.cells (flR Lg.cs (List.replicate N ⟨0, 0⟩)).toArray 50) = w1 := ⟨_, rfl⟩
  rw [hw1] at hb1 ho1 hmk
  rw [hz0] at ho1 hmk
  have HB1 := Lib.hid (bthen HB0.out hb1 HB0.out.size)
  have HO1 := Lib.hid ho1
  have K1 := Lib.hid (K0.out.grow hb1)
  clear hb1 ho1 hw1
  go_wp2_with fail
  clear hmk hw0 q0 q1
  have HA : Hid ((a : Nat) < N) := Lib.hid ha
  have HNN : Hid (∀ k, k < N → k ≤ 10) := Lib.hid (fun k hk => by omega)
  go_loopw [22] (fun i wr => ∃ k : Nat, k ≤ N ∧ i = .int .i64 (k : Nat) ∧ ∃ out, OutB wr (w.heap.size + 1) out ∧ out.length = N ∧ (∀ j, j < k → out[j]? = some noLg) ∧ Blk wr w.heap.size 24 #[.int .i64 (N : Int), .slice A nE cE] ∧ Below w.heap.size w wr) (fun i _ => N - (intOf i).toNat)
  case atStart => exact ⟨0, Nat.zero_le _, rfl, _, HO1.out, by simp, fun j hj => absurd hj (by omega), K1.out, HB1.out⟩
  case round =>
    obtain ⟨k, hk, rfl, out, hout, hol, hno, hrd, hbel⟩ := hrel
    have HO := Lib.hid hout
    have HOL := Lib.hid hol
    have HNO := Lib.hid hno
    have HR := Lib.hid hrd
    have HB := Lib.hid hbel
    have zz : w.heap.size + 1 < wr.heap.size := Blk.lt hout
    clear hout hol hno hrd hbel
    by_cases hlt : k < N
    · obtain ⟨x, hx⟩ := at_lt (l := out) (k := k) (by rw [HOL.out]; exact hlt)
      have HX := Lib.hid hx
      clear hx
      go_wp2_with (first
        | (go_at_call 34; refine (rnone_any _).mono ?_; rintro e w2 ⟨rfl, hb2⟩
           have HO2 : Hid (OutB w2 (w.heap.size + 1) _) := Lib.hid (Blk.grow HO.out hb2)
           have HR2 := Lib.hid (HR.out.grow hb2)
           have HB2 := Lib.hid (bthen HB.out hb2 HB.out.size)
           obtain ⟨c0, c1⟩ := HO2.out.cell HX.out
           have f0 := Blk.frozen HO2.out (k * 2)
           have f1 := Blk.frozen HO2.out (k * 2 + 1)
           clear hb2)
        | fail)
      go_roundw
      case rel =>
        refine ⟨k + 1, by omega, by go_num, _, HO2.out.put k noLg, by rw [List.length_set]; exact HOL.out, fun j hj => ?_, ?_, ?_⟩
        · rw [List.getElem?_set]
          by_cases e : k = j
          · rw [if_pos e, if_pos (by rw [HOL.out]; omega)]
          · rw [if_neg e]; exact HNO.out j (by omega)
        · exact (HR2.out.far (by show w.heap.size ≠ w.heap.size + 1; omega) _).far (by show w.heap.size ≠ w.heap.size + 1; omega) _
        · exact below_set (below_set HB2.out (by show w.heap.size ≤ w.heap.size + 1; omega) _) (by show w.heap.size ≤ w.heap.size + 1; omega) _
      case measure => simp [intOf]; omega
    · have e : k = N := by omega
      subst e
      have hrep : out = List.replicate k noLg := by
        refine List.ext_getElem? fun j => ?_
        rcases Nat.lt_or_ge j k with h1 | h1
        · rw [HNO.out j h1]; simp [h1]
        · rw [List.getElem?_eq_none (by rw [HOL.out]; exact h1), List.getElem?_eq_none (by simpa using h1)]
      subst hrep
      have hx : (List.replicate k noLg)[a]? = some noLg := by simp [ha]
      obtain ⟨c0, c1⟩ := HO.out.cell hx
      have f0 := Blk.frozen HO.out (a * 2)
      have f1 := Blk.frozen HO.out (a * 2 + 1)
      clear hx
      have ho3 := HO.out.put a ⟨0, 0⟩
      have hr3 : Blk (putL wr (w.heap.size + 1) a ⟨0, 0⟩) w.heap.size 24 #[.int .i64 (k : Int), .slice A nE cE] := (HR.out.far (by show w.heap.size ≠ w.heap.size + 1; omega) _).far (by show w.heap.size ≠ w.heap.size + 1; omega) _
      have hb3 : Below w.heap.size w (putL wr (w.heap.size + 1) a ⟨0, 0⟩) := below_set (below_set HB.out (by show w.heap.size ≤ w.heap.size + 1; omega) _) (by show w.heap.size ≤ w.heap.size + 1; omega) _
      have hz3 : w.heap.size + 1 < (putL wr (w.heap.size + 1) a ⟨0, 0⟩).heap.size := Blk.lt ho3
      obtain ⟨w3, hw3⟩ : ∃ w3, putL wr (w.heap.size + 1) a ⟨0, 0⟩ = w3 := ⟨_, rfl⟩
      rw [hw3] at ho3 hr3 hb3 hz3
      unfold putL at hw3
      simp only at hw3
      have HO3 := Lib.hid ho3
      have HR3 := Lib.hid hr3
      have HB3 := Lib.hid hb3
      clear ho3 hr3 hb3
      obtain ⟨hstart, hpot⟩ := LI.start (N := k) (E := E) (a := (a : Int)) ⟨by omega, by omega⟩ 0
      have HST := Lib.hid hstart
      have HPT := Lib.hid hpot
      clear hstart hpot
      go_wp2_with (first
        | (go_at_call 35; refine (new_any _).mono ?_; rintro e w4 ⟨rfl, hq4, hb4⟩
           obtain ⟨q, hqe⟩ : ∃ q, w3.heap.size = q := ⟨_, rfl⟩
           rw [hqe] at hq4 hz3 ⊢
           clear hqe
           have HQ4 := Lib.hid hq4
           have HO4 := Lib.hid (Blk.grow HO3.out hb4)
           have HR4 := Lib.hid (HR3.out.grow hb4)
           have HB4 := Lib.hid (bthen HB3.out hb4 HB3.out.size)
           clear hq4 hb4)
        | (go_at_call 38; refine (push_any HQ4.out (by omega) a 0 0).mono ?_; rintro e w5 ⟨rfl, g, cap, L', cnt', hq5, hp5, hg5, hk5⟩
           have hL : L' = [⟨a, 0, 0, 0⟩] := List.perm_singleton.1 hp5
           subst hL
           have hk6 : Kp (fun b => b = q) w4 w5 := hk5.mono (fun b e => e.resolve_right (by simp [Value.ownBlock]))
           have hsm : SM w w5 A k nE cE q _ _ g _ cap cnt' := ⟨hk6.blk HR4.out (by omega), hk6.blk HO4.out (by omega), hq5, HB4.out.trans (hk6.below HB4.out.size (fun b hb => by omega)), hz3⟩
           have HOI := Lib.hid (OI.start hsm HST.out HPT.out)
           clear hq5 hp5 hg5 hk5 hk6 hsm)
        | fail)
      clear hw3 c0 c1 f0 f1
      clear hz0 zz hk hlt hz3
      go_loopg [] (2 * maxQ) (fun kk wy => OI w wy A k nE cE q E a kk)
      case atStart => exact HOI.out
      case round =>
        obtain ⟨out, L, g, n, cap, cnt, hsm, hli, hlen, hkk⟩ := hrel
        have HSM := Lib.hid hsm
        have HLI := Lib.hid hli
        have HLE := Lib.hid hlen
        have HKK := Lib.hid hkk
        obtain ⟨wy, rfl⟩ : ∃ wy : World, wy = wr := ⟨_, rfl⟩
        clear hsm hli hlen hkk
        cases L with
        | nil =>
          have hn0 : n = 0 := HSM.out.qi.l.symm
          subst hn0
          go_wp2_with (first
            | (go_at_call 39; refine (pop_no HSM.out.qi).mono ?_; rintro e w6 ⟨rfl, hb6⟩
               have HS6 := Lib.hid (HSM.out.up hb6)
               clear hb6)
            | fail)
          go_ret
          have h7 := HS6.out.up (w' := w6.alloc (.cells #[.int .i64 0, .int .i64 0, .int .i64 0] 93)) (by go_grown)
          exact ⟨_, out, rfl, by omega, h7.o, HLI.out.done HE.out ⟨by omega, by have := HA.out; omega⟩ hN, h7.bl⟩
        | cons x L =>
          have hnl : n = L.length + 1 := HSM.out.qi.l.symm
          subst hnl
          have hq0 : L.length + 1 ≤ 4398046511104 := by have := HLE.out; simp only [List.length_cons, maxQ] at this; omega
          obtain ⟨hv0, hv1, hs0⟩ := HLI.out.qv x (by simp)
          obtain ⟨xv, xs, xm, xk⟩ := x
          simp only at hv0 hv1 hs0
          obtain ⟨v, rfl⟩ : ∃ v : Nat, xv = (v : Int) := ⟨xv.toNat, by omega⟩
          have hvk : v < k := by omega
          obtain ⟨⟨os, om⟩, hox⟩ := at_lt (l := out) (k := v) (by rw [HLI.out.len]; exact hvk)
          have hat : ato out (v : Int) = ⟨os, om⟩ := by simp [ato, List.getD, hox]
          have HOX := Lib.hid hox
          have HAT := Lib.hid hat
          clear hox hat hv0 hv1
          go_wp2_with fail
          refine (pop_some HSM.out.qi hq0).mono ?_
          rintro e w6 ⟨rfl, L', hq6, hp6, hk6⟩
          have hs6 := HSM.out.turn hq6 hk6
          have hs7 := hs6.up (w' := w6.alloc (.cells #[.int .i64 (v : Int), .int .i64 xs, .int .i64 xm] 93)) (by go_grown)
          have HP6 := Lib.hid hp6
          obtain ⟨c0, c1⟩ := hs7.o.cell HOX.out
          simp only at c0 c1
          have kx := Blk.new w6 93 #[.int .i64 (v : Int), .int .i64 xs, .int .i64 xm]
          have hg6 := hq6.glt.2
          have hqg6 := hq6.glt.1
          have hz6 : w.heap.size + 1 < q := hs6.lt
          have HS7 := Lib.hid hs7
          obtain ⟨w7, hw7⟩ : ∃ w7, w6.alloc (.cells #[.int .i64 (v : Int), .int .i64 xs, .int .i64 xm] 93) = w7 := ⟨_, rfl⟩
          obtain ⟨sb, hsb⟩ : ∃ sb, w6.heap.size = sb := ⟨_, rfl⟩
          rw [hw7] at HS7 kx c0 c1
          rw [hsb] at kx hg6
          have KX := Lib.hid kx
          have d0 := kx.cell 0
          have d1 := kx.cell 1
          have d2 := kx.cell 2
          simp at d0 d1 d2
          clear hq6 hp6 hk6 hs6 hs7 kx
          go_wp2_with fail
          clear hw7 hsb
          have HPX : Hid (((⟨(v : Int), xs, xm, xk⟩ : Itm) :: L).Perm (⟨(v : Int), xs, xm, xk⟩ :: L')) := Lib.hid (HP6.out.symm.cons _)
          have HLN : Hid (L'.length = L.length) := Lib.hid HP6.out.length_eq
          have hold : ¬ (os = xs ∧ om = xm) → ∀ w8, Below w7.heap.size w7 w8 → OI w w8 A k nE cE q E (a : Int) (2 * Phi out + L'.length) := fun hne w8 hb8 => by
            refine ⟨out, L', g, _, cap, cnt, HS7.out.up hb8, HLI.out.pop_old HPX.out ?_, ?_, Nat.le_refl _⟩
            · intro e
              rw [HAT.out] at e
              exact hne ⟨congrArg Lg.s e, congrArg Lg.m e⟩
            · have := HLE.out; have := HLN.out; simp only [List.length_cons] at *; omega
          have HOLD := Lib.hid hold
          have HMS : Hid (2 * Phi out + L'.length < gk) := Lib.hid (by have := HKK.out; have := HLN.out; simp only [List.length_cons] at *; omega)
          clear hold
          by_cases e1 : os = xs
          · subst e1
            by_cases e2 : om = xm
            · subst e2
              have r1 := HS7.out.rd.cell 1
              simp at r1
              have hii : II w w7 A k nE cE q E (a : Int) gk sb (v : Int) os om 0 := ⟨out, L', g, _, cap, cnt, HS7.out, HLI.out.pop_new HPX.out, by have := HLE.out; have := HLN.out; simp only [List.length_cons] at *; omega, HMS.out, HAT.out, fun x hx => absurd hx (by simp), KX.out, by omega, by omega⟩
              have HII := Lib.hid hii
              clear hii
              go_quiet (fail)
              go_wp2_with fail
              have HII8 := Lib.hid (HII.out.up (belowN (Below.refl _ _) nq))
              clear hqg6 hz6 hg6 c0 c1 d0 d1 d2 r1
              go_loopw [58] (fun i wx => ∃ j : Nat, j ≤ nE ∧ i = .int .i64 (j : Nat) ∧ II w wx A k nE cE q E (a : Int) gk sb (v : Int) os om j) (fun i _ => nE - (intOf i).toNat)
              case atStart => exact ⟨0, Nat.zero_le _, rfl, HII8.out⟩
              case round =>
                obtain ⟨j, hj, rfl, hii⟩ := hrel
                have HIX := Lib.hid hii
                obtain ⟨out2, L2, g2, n2, cap2, cnt2, hsm2, hli2, hlen2, hms2, hat2, hrx2, kx2, hsg2, hqs2⟩ := hii
                have HS2 := Lib.hid hsm2
                have HL2 := Lib.hid hli2
                have HN2 := Lib.hid hlen2
                have HM2 := Lib.hid hms2
                have HT2 := Lib.hid hat2
                have HR2 := Lib.hid hrx2
                have KX2 := Lib.hid kx2
                have zsb := kx2.lt
                clear hsm2 hli2 hlen2 hms2 hat2 hrx2 kx2
                obtain ⟨wx, rfl⟩ : ∃ wx : World, wx = wr := ⟨_, rfl⟩
                by_cases hlt : j < nE
                · obtain ⟨x, hx⟩ := at_lt (l := E) (k := j) (by rw [HL.out]; exact hlt)
                  obtain ⟨b, o, rfl, hb, hc⟩ := HM.out.2 (by omega)
                  have hcx := (HM.out.cells_ hlt hx HS2.out.bl).2
                  have c0 := hcx 0 _ rfl
                  rw [Nat.add_zero] at c0
                  have c1 := hcx 1 _ rfl
                  have c2 := hcx 2 _ rfl
                  have c3 := hcx 3 _ rfl
                  have HX := Lib.hid hx
                  have hxe := List.mem_of_getElem? hx
                  have HXE := Lib.hid hxe
                  obtain ⟨n1, n2', n3, n4, n5, n6, n7, n8, n9⟩ := HE.out x hxe
                  clear hcx hc hx hxe
                  obtain ⟨f, t', m, s⟩ := x
                  simp only at c0 c1 c2 c3 n1 n2' n3 n4 n5 n6 n7 n8 n9
                  obtain ⟨t, rfl⟩ : ∃ t : Nat, t' = (t : Int) := ⟨t'.toNat, by omega⟩
                  have htk : t < k := by omega
                  have hbe : Below wx.heap.size wx (wx.alloc (.cells #[.int .i64 f, .int .i64 (t : Int), .int .i64 m, .int .i64 s] 56)) := by go_grown
                  have kb := Blk.new wx 56 #[.int .i64 f, .int .i64 (t : Int), .int .i64 m, .int .i64 s]
                  go_wp2_with fail
                  refine (forward_any _ _ _ _ _).mono ?_
                  rintro e w2 ⟨rfl, hb2⟩
                  have hbx2 := bthen hbe hb2 hbe.size
                  have ke2 := kb.grow hb2
                  have HBX2 := Lib.hid hbx2
                  have kx3 := KX2.out.grow hbx2
                  have HS3 := Lib.hid (HS2.out.up hbx2)
                  obtain ⟨eb, heb⟩ : ∃ eb, wx.heap.size = eb := ⟨_, rfl⟩
                  rw [heb] at ke2 ⊢
                  have KE2 := Lib.hid ke2
                  have KX3 := Lib.hid kx3
                  have d0 := kx3.cell 0
                  have d1 := kx3.cell 1
                  have d2 := kx3.cell 2
                  have y0 := ke2.cell 0
                  have y1 := ke2.cell 1
                  have y2 := ke2.cell 2
                  have y3 := ke2.cell 3
                  simp at d0 d1 d2 y0 y1 y2 y3
                  have HEB := Lib.hid heb
                  clear hbe kb hb2 hbx2 ke2 kx3 c0 c1 c2 c3 heb
                  have HNX : Hid (∀ (out3 : List Lg), (∀ y ∈ E.take j, y.f = (v : Int) → Rlx out3 y) → (f = (v : Int) → Rlx out3 ⟨f, t, m, s⟩) → ∀ y ∈ E.take (j + 1), y.f = (v : Int) → Rlx out3 y) := Lib.hid fun out3 h1 h2 y hy hyf => by
                    rw [List.take_add_one, HX.out] at hy
                    rcases List.mem_append.1 hy with hy | hy
                    · exact h1 y hy hyf
                    · simp at hy
                      subst hy
                      exact h2 hyf
                  by_cases hfv : f = (v : Int)
                  · subst hfv
                    have hB : os ≤ 900000 ∧ 0 ≤ om ∧ om ≤ 900000 := by
                      obtain ⟨p, _, _, hpl, bm0, bs, bm, _⟩ := HL2.out.bound HE.out ⟨by omega, by have := HA.out; omega⟩ (n := (v : Int)) (by omega) (by omega) (by rw [HT2.out]; exact hs0)
                      rw [HT2.out] at bm0 bs bm
                      have hcp := List.countP_le_length (p := fin) (l := out2)
                      rw [HL2.out.len] at hcp
                      simp only at bm0 bs bm
                      omega
                    obtain ⟨hB1, hB2, hB3⟩ := hB
                    obtain ⟨⟨ts, tm⟩, hot⟩ := at_lt (l := out2) (k := t) (by rw [HL2.out.len]; exact htk)
                    have htt : ato out2 (t : Int) = ⟨ts, tm⟩ := by simp [ato, List.getD, hot]
                    have HBT : Hid (betB (os + s) (om + m) ts tm = true → ∀ (L5 : List Itm) (kq : Int), L5.Perm (L2 ++ [⟨t, os + s, om + m, kq⟩]) → LI k E (a : Int) (out2.set t ⟨os + s, om + m⟩) L5 (fun n => n = (v : Int)) ∧ ato (out2.set t ⟨os + s, om + m⟩) v = ⟨os, om⟩ ∧ Phi (out2.set t ⟨os + s, om + m⟩) < Phi out2 ∧ (∀ x ∈ E, x.f = (v : Int) → Rlx out2 x → Rlx (out2.set t ⟨os + s, om + m⟩) x) ∧ Rlx (out2.set t ⟨os + s, om + m⟩) ⟨v, t, m, s⟩) := Lib.hid fun hb L5 kq hp => by
                      have hbb := HL2.out.better (L' := L5) (k := kq) HE.out ⟨by omega, by have := HA.out; omega⟩ hN (v := (v : Int)) (by rw [HT2.out]; exact hs0) HXE.out rfl (by rw [HT2.out, htt]; exact hb) (by rw [HT2.out]; exact hp)
                      rw [HT2.out] at hbb
                      exact hbb
                    have HBF : Hid (betB (os + s) (om + m) ts tm = false → Rlx out2 ⟨v, t, m, s⟩) := Lib.hid fun hb => rlx_no (HL2.out.ent _ (by show (0 : Int) ≤ (t : Int); omega) (by show (t : Int) < k; omega)) (by show betB ((ato out2 (v : Int)).s + s) ((ato out2 (v : Int)).m + m) (ato out2 (t : Int)).s (ato out2 (t : Int)).m = false; rw [HT2.out, htt]; exact hb)
                    have HOT := Lib.hid hot
                    clear hot htt
                    go_wp2_with fail
                    refine (after_any _ _ _ _ _ _ _ (by omega) (by omega) (by omega) (by omega) (by omega) (by omega) (by omega) (by omega)).mono ?_
                    rintro e w3 ⟨rfl, hb3⟩
                    have hs3 := HS3.out.up hb3
                    have hs4 := hs3.up (w' := w3.alloc (.cells #[.int .i64 (os + s), .int .i64 (om + m)] 50)) (by go_grown)
                    have kx4 := (KX3.out.grow hb3).alloc (.cells #[.int .i64 (os + s), .int .i64 (om + m)] 50)
                    have kl4 := Blk.new w3 50 #[.int .i64 (os + s), .int .i64 (om + m)]
                    obtain ⟨w4, hw4⟩ : ∃ w4, w3.alloc (.cells #[.int .i64 (os + s), .int .i64 (om + m)] 50) = w4 := ⟨_, rfl⟩
                    obtain ⟨lb, hlb⟩ : ∃ lb, w3.heap.size = lb := ⟨_, rfl⟩
                    rw [hw4] at hs4 kx4 kl4
                    rw [hlb] at kl4
                    have hqlb : q < lb := by rw [← hlb]; exact hs3.qi.qlt
                    have HS4 := Lib.hid hs4
                    have KX4 := Lib.hid kx4
                    have KL4 := Lib.hid kl4
                    have zlb := kl4.lt
                    obtain ⟨o0, o1⟩ := hs4.o.cell HOT.out
                    have r0 := cell_regrown o0
                    have r1 := cell_regrown o1
                    have r2 := cell_regrown (kl4.cell 0)
                    have r3 := cell_regrown (kl4.cell 1)
                    have l0 := kl4.cell 0
                    have l1 := kl4.cell 1
                    simp at r0 r1 r2 r3 l0 l1
                    clear hs3 hs4 kx4 kl4 hb3 d0 d1 d2 y0 y1 y2 y3 o0 o1
                    go_wp2_with fail
                    clear hw4 hlb
                    obtain ⟨bb, hbb⟩ : ∃ bb, betB (os + s) (om + m) ts tm = bb := ⟨_, rfl⟩
                    have HBB := Lib.hid hbb
                    clear hbb
                    refine wp_region_quiet_below (by kernel_rfl) (by kernel_rfl) ?_
                    repeat (go_big_quiet_step (exact better_q HBB.out _ _))
                    refine wpQuiet_nil ?_
                    intro _ hw'
                    obtain ⟨⟨dq, osq⟩, hw''⟩ := hw'
                    subst hw''
                    obtain ⟨w5, hw5⟩ : ∃ w5, Go.Sort.grow (redrawn w4 dq) osq = w5 := ⟨_, rfl⟩
                    have hb5 : Below w4.heap.size w4 w5 := by rw [← hw5]; exact below_regrown _ dq osq
                    rw [hw5]
                    have HS5 := Lib.hid (HS4.out.up hb5)
                    have KX5 := Lib.hid (KX4.out.grow hb5)
                    have kl5 := KL4.out.grow hb5
                    have l0 := kl5.cell 0
                    have l1 := kl5.cell 1
                    simp at l0 l1
                    have KL5 := Lib.hid kl5
                    clear hw5 hb5 r0 r1 r2 r3 kl5
                    cases bb with
                    | false =>
                      go_wp2_with fail
                      go_roundw
                      case rel => exact ⟨j + 1, by omega, by go_num, out2, L2, g2, n2, cap2, cnt2, HS5.out, HL2.out, HN2.out, HM2.out, HT2.out, HNX.out out2 HR2.out (fun _ => HBF.out HBB.out), KX5.out, hsg2, hqs2⟩
                      case measure => simp [intOf]; omega
                    | true =>
                      obtain ⟨o0, o1⟩ := HS5.out.o.cell HOT.out
                      have f0 := Blk.frozen HS5.out.o (t * 2)
                      have f1 := Blk.frozen HS5.out.o (t * 2 + 1)
                      have hs6 := HS5.out.put t ⟨os + s, om + m⟩
                      have hlt6 := hs6.lt
                      have hqg := hs6.qi.glt.1
                      have kx6 : Blk (putL w5 (w.heap.size + 1) t ⟨os + s, om + m⟩) sb 93 #[.int .i64 (v : Int), .int .i64 os, .int .i64 om] := (KX5.out.far (by show sb ≠ w.heap.size + 1; omega) _).far (by show sb ≠ w.heap.size + 1; omega) _
                      have kl6 : Blk (putL w5 (w.heap.size + 1) t ⟨os + s, om + m⟩) lb 50 #[.int .i64 (os + s), .int .i64 (om + m)] := (KL5.out.far (by show lb ≠ w.heap.size + 1; omega) _).far (by show lb ≠ w.heap.size + 1; omega) _
                      obtain ⟨w6, hw6⟩ : ∃ w6, putL w5 (w.heap.size + 1) t ⟨os + s, om + m⟩ = w6 := ⟨_, rfl⟩
                      rw [hw6] at hs6 kx6 kl6
                      unfold putL at hw6
                      simp only at hw6
                      have HS6 := Lib.hid hs6
                      have KX6 := Lib.hid kx6
                      have g0 := kl6.cell 0
                      have g1 := kl6.cell 1
                      simp at g0 g1
                      have hnl2 : n2 + 1 ≤ 4398046511104 := by
                        have h1 := HN2.out
                        have h2 := hs6.qi.l
                        simp only [maxQ] at h1
                        omega
                      clear hs6 kx6 kl6
                      go_wp2_with fail
                      refine (push_any HS6.out.qi.qs hnl2 (t : Int) (os + s) (om + m)).mono ?_
                      rintro e w7' ⟨rfl, g3, cap3, L3, cnt3, hq7, hp7, hg7, hk7⟩
                      have hg7' : g2 = g3 ∨ w6.heap.size ≤ g3 := by
                        rcases hg7 with h | h
                        · left; injection h
                        · exact .inr h
                      have hk8 : Kp (fun b => b = q ∨ b = g2) w6 w7' := hk7.mono (fun b e => by
                        rcases e with e | e
                        · exact .inl e
                        · right; injection e with e; exact e.symm)
                      have hsg3 : sb ≠ g3 := by
                        have := KX6.out.lt
                        rcases hg7' with h | h
                        · rw [← h]; exact hsg2
                        · omega
                      obtain ⟨hb1, hb2, hb3, hb4, hb5⟩ := HBT.out HBB.out L3 cnt2 hp7
                      have hpl : L3.length = L2.length + 1 := by rw [hp7.length_eq]; simp
                      have hii9 : II w w7' _ k nE cE q E (a : Int) gk sb (v : Int) os om (j + 1) := ⟨_, L3, g3, _, cap3, cnt3, HS6.out.turn hq7 hk8, hb1, by have := HN2.out; omega, by have := HM2.out; omega, hb2, HNX.out _ (fun y hy hyf => hb4 y (List.mem_of_mem_take hy) hyf (HR2.out y hy hyf)) (fun _ => hb5), hk8.blk KX6.out (by omega), hsg3, hqs2⟩
                      have HI9 := Lib.hid hii9
                      clear hq7 hp7 hg7 hk7 hg7' hk8 hb1 hb2 hb3 hb4 hb5 hii9 hpl
                      go_wp2_with fail
                      go_roundw
                      case rel => exact ⟨j + 1, by omega, by go_num, HI9.out⟩
                      case measure => simp [intOf]; omega
                  · have e5 : (f == (v : Int)) = false := by simpa using hfv
                    have HFV := Lib.hid hfv
                    clear hfv
                    go_wp2_with fail
                    go_roundw
                    case rel => exact ⟨j + 1, by omega, by go_num, out2, L2, g2, n2, cap2, cnt2, HS3.out, HL2.out, HN2.out, HM2.out, HT2.out, HNX.out out2 HR2.out (fun e => absurd e HFV.out), KX3.out, hsg2, hqs2⟩
                    case measure => simp [intOf]; omega
                · have e : j = nE := by omega
                  subst e
                  have htk : E.take j = E := List.take_of_length_le (by rw [HL.out]; exact Nat.le_refl _)
                  have HTK := Lib.hid htk
                  clear htk
                  go_wp2_with fail
                  go_roundg (2 * Phi out2 + L2.length)
                  case measure => exact HM2.out
                  case rel => exact ⟨out2, L2, g2, n2, cap2, cnt2, HS2.out, HL2.out.settled (fun x hx => HR2.out x (by rw [HTK.out]; exact hx)), HN2.out, Nat.le_refl _⟩
            · have e3 : (om == xm) = false := by simpa using e2
              have HNE := Lib.hid e2
              go_quiet (fail)
              go_wp2_with fail
              go_roundg (2 * Phi out + L'.length)
              case measure => exact HMS.out
              case rel => exact HOLD.out (fun e => HNE.out e.2) _ (belowN (Below.refl _ _) _)
          · have e3 : (os == xs) = false := by simpa using e1
            have HNE := Lib.hid e1
            go_quiet (fail)
            go_wp2_with fail
            go_roundg (2 * Phi out + L'.length)
            case measure => exact HMS.out
            case rel => exact HOLD.out (fun e => HNE.out e.1) _ (belowN (Below.refl _ _) _)
end Go.Proofs.Ytmoakdplhfgipaa
