/- VehicleKinds: a vehicle carries exactly the kinds of its list, which ascend; a vehicle of a valid list carries at least one kind, and only kinds below the number of materials, and the vehicles that are useful for a kind are those that carry it (at most 40 vehicles); the fixed examples hold. No condition. -/
import Derived.Test.YthalbjnjlgnndaaAwake20
import Derived.Test.YthalbjnjlgnndaaOpenV
import Derived.Test.YthalbjnjlgnndaaVehN
namespace Go.Proofs.Ythalbjnjlgnndaa.vehicleKinds
open Go.ChangeShapes Go.WideShapes Go.ChangeAt Go.RowKit
set_option linter.unusedVariables false

set_option maxRecDepth 100000 in
set_option maxHeartbeats 3200000 in
theorem walk_small (w : World) (A : Option Addr) (n c : Nat) (L : List Veh) (a m q : Int) (hr : RdT w (· < w.heap.size) 6 Veh.cs A n L) (hn : n ≤ maxLen) (hsz : ∀ x ∈ L, x.id.size ≤ maxLen) (hb : smallB L = false) :
    Calls Try.prog 7 #[.slice A n c, .int .i64 a, .int .i64 m, .int .i64 q] w fun e w' => e = .returned (.bool true) ∧ Below w.heap.size w w' := by
  have HR := Lib.hid hr
  have HSZ := Lib.hid hsz
  have HN := Lib.hid hn
  have HBL := Lib.hid hb
  clear hr hsz hn hb
  go_enter Try.func7, Try.ntmps7
  go_wp2_with fail
  refine (small_any HR.out HN.out HSZ.out).mono ?_
  rw [HBL.out]
  rintro e w1 ⟨rfl, hb1⟩
  have HB1 := Lib.hid hb1
  clear hb1
  go_wp2_with fail
  refine (awake_any _).mono ?_
  rintro e w9 ⟨rfl, hb9⟩
  have HB9 := Lib.hid (HB1.out.trans (hb9.mono HB1.out.size))
  clear hb9
  go_wp2
  go_ret
  exact ⟨rfl, HB9.out⟩
set_option maxRecDepth 100000 in
set_option maxHeartbeats 6400000 in
theorem walk_true (w : World) (A : Option Addr) (n c : Nat) (L : List Veh) (a m q : Int) (hr : RdT w (· < w.heap.size) 6 Veh.cs A n L) (hn : n ≤ maxLen) (hsz : ∀ x ∈ L, x.id.size ≤ maxLen) (hb : smallB L = true) (hv : chkV L a m = 0) :
    Calls Try.prog 7 #[.slice A n c, .int .i64 a, .int .i64 m, .int .i64 q] w fun e w' => e = .returned (.bool true) ∧ Below w.heap.size w w' := by
  have HR := Lib.hid hr
  have HSZ := Lib.hid hsz
  have HN := Lib.hid hn
  have HBL := Lib.hid hb
  have HL : Hid (L.length = n) := Lib.hid hr.1
  have h40 : n ≤ 40 := by rw [← HL.out]; exact (smallB_true hb).1
  have hn' : n ≤ 1099511627776 := by omega
  obtain ⟨m1, m16, hve, _, _⟩ := chkV_ok hv
  have HVK : Hid (∀ x ∈ L, 1 ≤ x.kinds ∧ x.kinds < 2 ^ m.toNat) := Lib.hid (fun x hx => kinds_valid (hve x hx))
  have HV := Lib.hid hv
  clear hr hsz hn hb hv hve
  go_enter Try.func7, Try.ntmps7
  go_wp2_with fail
  refine (small_any HR.out HN.out HSZ.out).mono ?_
  rw [HBL.out]
  rintro e w1 ⟨rfl, hb1⟩
  have HB1 := Lib.hid hb1
  have HR1 := Lib.hid (HR.out.up hb1)
  clear hb1
  go_wp2_with fail
  refine (check_any (c := c) HR1.out HN.out HSZ.out a m).mono ?_
  rw [HV.out]
  rintro e w2 ⟨rfl, hb2⟩
  have HB2 := Lib.hid (HB1.out.trans (hb2.mono HB1.out.size))
  have HR2 := Lib.hid (HR1.out.up hb2)
  clear hb2
  go_wp2_with fail
  refine (useful_any (c := c) HR2.out hn' q).mono ?_
  rintro e w3 ⟨A3, c3', rfl, hr3, hb3⟩
  have HB3 := Lib.hid (HB2.out.trans (hb3.mono HB2.out.size))
  have HI3 := Lib.hid (hr3.mono fun b h => h.2)
  clear hb3 hr3
  obtain ⟨ul, hul⟩ : ∃ ul, atL (fun x : Veh => carB x.kinds q) L = ul := ⟨_, rfl⟩
  rw [hul]
  have HUL := Lib.hid hul
  have HIU : Hid (RdS w3 (· < w3.heap.size) A3 ul.length (ints ul)) := Lib.hid (by have := HI3.out; rwa [hul] at this)
  clear HI3
  have hull : ul.length ≤ n := by
    have h1 := atL_len (fun x : Veh => carB x.kinds q) L
    rw [hul, HL.out] at h1
    exact h1
  clear hul
  go_wp2_with fail
  go_loopw [11, 12] (fun at_ i wr => ∃ k : Nat, k ≤ n ∧ i = .int .i64 (k : Nat) ∧ at_ = .int .i64 ((atL (fun x : Veh => carB x.kinds q) (L.take k)).length : Nat) ∧ Below w3.heap.size w3 wr) (fun _ i _ => n - (intOf i).toNat)
  case atStart => exact ⟨0, Nat.zero_le _, rfl, rfl, Below.refl _ _⟩
  case round =>
    obtain ⟨k, hk, rfl, rfl, hbel⟩ := hrel
    have HBa := Lib.hid hbel
    have HB := Lib.hid (HB3.out.trans (hbel.mono HB3.out.size))
    clear hbel
    by_cases hlt : k < n
    · obtain ⟨x, hx⟩ := at_lt (l := L) (k := k) (by rw [HL.out]; exact hlt)
      obtain ⟨b, o, rfl, hb, hc⟩ := HR.out.2 (by omega)
      have HX := Lib.hid hx
      have HTK := Lib.hid (atL_take (fun x : Veh => carB x.kinds q) hx)
      have HAT := Lib.hid (fun hp : carB x.kinds q = true => atL_at (p := (fun x : Veh => carB x.kinds q)) hx hp)
      have i1 : (0 : Int) ≤ (k : Int) := by omega
      have i2 : (k : Int) < (n : Int) := by omega
      clear hx hc
      obtain ⟨wq, rfl⟩ : ∃ wq : World, wq = wr := ⟨_, rfl⟩
      have hcx := (HR.out.cells_ hlt HX.out HB.out).2
      have c0 := hcx 0 _ rfl
      rw [Nat.add_zero] at c0
      have c1 := hcx 1 _ rfl
      have c2 := hcx 2 _ rfl
      have c3 := hcx 3 _ rfl
      have c4 := hcx 4 _ rfl
      have c5 := hcx 5 _ rfl
      clear hcx
      go_wp2_with fail
      refine (kinds_any x _).mono ?_
      rintro e w4 ⟨A4, c4', rfl, hr4, hb4⟩
      have HB4 := Lib.hid (HB.out.trans (hb4.mono HB.out.size))
      have HBa4 := Lib.hid (HBa.out.trans (hb4.mono HBa.out.size))
      have HI4 := Lib.hid (hr4.mono fun b h => h.2)
      obtain ⟨kl, hkl⟩ : ∃ kl, kindsL x.kinds = kl := ⟨_, rfl⟩
      have hll := kindsK_len x.kinds 16
      have e16 : kindsK x.kinds 16 = kindsL x.kinds := rfl
      rw [e16, hkl] at hll
      have HKL := Lib.hid hkl
      have HK4 : Hid (RdS w4 (· < w4.heap.size) A4 kl.length (ints kl)) := Lib.hid (by have := HI4.out; rwa [hkl] at this)
      rw [hkl]
      clear hb4 hr4 hkl e16 c0 c1 c2 c3 c4 c5 HI4
      go_wp2_with fail
      go_loopw [14, 15] (fun nn kk wr => ∃ t : Nat, t ≤ 18 ∧ kk = .int .i64 ((t : Int) - 1) ∧ nn = .int .i64 (cntK x.kinds t : Nat) ∧ Below w4.heap.size w4 wr) (fun _ kk _ => (17 - intOf kk).toNat)
      case atStart => exact ⟨0, by omega, rfl, rfl, Below.refl _ _⟩
      case round =>
        obtain ⟨t, ht, rfl, rfl, hbel⟩ := hrel
        have HBb := Lib.hid hbel
        have HBB := Lib.hid (HB4.out.trans (hbel.mono HB4.out.size))
        have hcl := cntK_le x.kinds t
        clear hbel
        by_cases hlt2 : t < 18
        · have HCS := Lib.hid (cntK_succ x.kinds t)
          have hcx := (HR.out.cells_ hlt HX.out HBB.out).2
          have c0 := hcx 0 _ rfl
          rw [Nat.add_zero] at c0
          have c1 := hcx 1 _ rfl
          have c2 := hcx 2 _ rfl
          have c3 := hcx 3 _ rfl
          have c4 := hcx 4 _ rfl
          have c5 := hcx 5 _ rfl
          clear hcx
          obtain ⟨kz, hkz⟩ : ∃ kz : Int, (t : Int) - 1 = kz := ⟨_, rfl⟩
          have kz0 : -1 ≤ kz := by omega
          have kz1 : kz ≤ 16 := by omega
          cases hcb : carB x.kinds kz
          · have HCB := Lib.hid hcb
            clear hcb
            go_wp2_with fail
            refine (carries_any x kz _).mono ?_
            rw [HCB.out]
            rintro e w5 ⟨rfl, hb5⟩
            have HB5 := Lib.hid (HBb.out.trans (hb5.mono HBb.out.size))
            clear hb5
            go_wp2_with fail
            go_roundw
            case rel => exact ⟨t + 1, by omega, by rw [← hkz]; congr 1; omega, by rw [HCS.out, hkz, HCB.out]; rfl, HB5.out⟩
            case measure => simp [intOf]; omega
          · obtain ⟨z0, z1⟩ := carB_in hcb
            obtain ⟨s, rfl⟩ : ∃ s : Nat, kz = (s : Int) := ⟨kz.toNat, by omega⟩
            have hts : t = s + 1 := by omega
            obtain ⟨a1, a2⟩ := kindsK_at (by omega) hcb
            have hcn : cntK x.kinds t = (kindsK x.kinds s).length := by
              unfold cntK
              rw [hts, show min (s + 1 - 1) 16 = s by omega]
            rw [HKL.out, ← hcn] at a1 a2
            obtain ⟨nn, hnn⟩ : ∃ nn, cntK x.kinds t = nn := ⟨_, rfl⟩
            rw [hnn] at a1 a2 hcl
            have HNN := Lib.hid hnn
            have hbel2 := kinds_below (HVK.out x (List.mem_of_getElem? HX.out)).1 (HVK.out x (List.mem_of_getElem? HX.out)).2 m1 hcb
            have HCB := Lib.hid hcb
            clear hcb hcn hnn
            rw [HNN.out]
            go_wp2_with fail
            refine (carries_any x (s : Int) _).mono ?_
            rw [HCB.out]
            rintro e w5 ⟨rfl, hb5⟩
            have HB5 := Lib.hid (HBb.out.trans (hb5.mono HBb.out.size))
            obtain ⟨b', o', u, rfl, hb', hu, hcell⟩ := (HK4.out.below HB5.out).at_ a2
            have hu2 : u = .int .i64 (s : Int) := by
              unfold ints at hu
              rw [List.getElem?_map, a1] at hu
              exact (Option.some.inj hu).symm
            subst hu2
            have n1 : (0 : Int) ≤ (nn : Int) := by omega
            have n2 : (nn : Int) < (kl.length : Int) := by omega
            clear hb5 hu a1 c0 c1 c2 c3 c4 c5
            go_wp2_with fail
            go_roundw
            case rel => exact ⟨t + 1, by omega, by rw [← hkz]; congr 1; omega, by rw [HCS.out, hkz, HCB.out, HNN.out]; rfl, HB5.out⟩
            case measure => simp [intOf]; omega
        · obtain rfl : t = 18 := by omega
          have hcn : cntK x.kinds 18 = kl.length := by rw [← HKL.out]; rfl
          rw [hcn]
          have hsome := kinds_some (HVK.out x (List.mem_of_getElem? HX.out)).1 (HVK.out x (List.mem_of_getElem? HX.out)).2 m1 m16
          rw [HKL.out] at hsome
          have hcx := (HR.out.cells_ hlt HX.out HBB.out).2
          have c0 := hcx 0 _ rfl
          rw [Nat.add_zero] at c0
          have c1 := hcx 1 _ rfl
          have c2 := hcx 2 _ rfl
          have c3 := hcx 3 _ rfl
          have c4 := hcx 4 _ rfl
          have c5 := hcx 5 _ rfl
          clear hcx
          clear hcn hcl
          obtain ⟨an, han⟩ : ∃ an, (atL (fun x : Veh => carB x.kinds q) (L.take k)).length = an := ⟨_, rfl⟩
          have HAN := Lib.hid han
          have hand : an ≤ k := by
            have h1 := atL_len (fun x : Veh => carB x.kinds q) (L.take k)
            rw [han, List.length_take, HL.out] at h1
            omega
          rw [han]
          clear han
          cases hp : carB x.kinds q
          · have HP := Lib.hid hp
            clear hp
            go_wp2_with fail
            refine (carries_any x q _).mono ?_
            rw [HP.out]
            rintro e w6 ⟨rfl, hb6⟩
            have HB6 := Lib.hid (HBa4.out.trans ((HBb.out.trans (hb6.mono HBb.out.size)).mono HBa4.out.size))
            clear hb6
            go_wp2_with fail
            go_roundw
            case rel => exact ⟨k + 1, by omega, by go_num, by rw [HTK.out, List.length_append, HAN.out, HP.out]; rfl, HB6.out⟩
            case measure => simp [intOf]; omega
          · obtain ⟨a1, a2⟩ := HAT.out hp
            rw [HUL.out, HAN.out] at a1 a2
            have HP := Lib.hid hp
            clear hp
            go_wp2_with fail
            refine (carries_any x q _).mono ?_
            rw [HP.out]
            rintro e w6 ⟨rfl, hb6⟩
            have HB6 := Lib.hid (HBa4.out.trans ((HBb.out.trans (hb6.mono HBb.out.size)).mono HBa4.out.size))
            obtain ⟨b', o', u, rfl, hb', hu, hcell⟩ := (HIU.out.below HB6.out).at_ a2
            have hu2 : u = .int .i64 (k : Int) := by
              unfold ints at hu
              rw [List.getElem?_map, a1] at hu
              exact (Option.some.inj hu).symm
            subst hu2
            have n1 : (0 : Int) ≤ (an : Int) := by omega
            have n2 : (an : Int) < (ul.length : Int) := by omega
            clear hb6 hu a1 c0 c1 c2 c3 c4 c5
            go_wp2_with fail
            go_roundw
            case rel => exact ⟨k + 1, by omega, by go_num, by rw [HTK.out, List.length_append, HAN.out, HP.out]; go_num, HB6.out⟩
            case measure => simp [intOf]; omega
    · have e : k = n := by omega
      subst e
      have hfin : (atL (fun x : Veh => carB x.kinds q) (L.take k)).length = ul.length := by rw [List.take_of_length_le (by rw [HL.out]; exact Nat.le_refl _), HUL.out]
      rw [hfin]
      clear hfin
      go_wp2_with fail
      refine (awake_any _).mono ?_
      rintro e w9 ⟨rfl, hb9⟩
      have HB9 := Lib.hid (HB.out.trans (hb9.mono HB.out.size))
      clear hb9
      go_wp2
      go_ret
      exact ⟨rfl, HB9.out⟩
set_option maxRecDepth 100000 in
set_option maxHeartbeats 6400000 in
theorem walk_false (w : World) (A : Option Addr) (n c : Nat) (L : List Veh) (a m q : Int) (hr : RdT w (· < w.heap.size) 6 Veh.cs A n L) (hn : n ≤ maxLen) (hsz : ∀ x ∈ L, x.id.size ≤ maxLen) (hb : smallB L = true) (hv : chkV L a m ≠ 0) :
    Calls Try.prog 7 #[.slice A n c, .int .i64 a, .int .i64 m, .int .i64 q] w fun e w' => e = .returned (.bool true) ∧ Below w.heap.size w w' := by
  have HR := Lib.hid hr
  have HSZ := Lib.hid hsz
  have HN := Lib.hid hn
  have HBL := Lib.hid hb
  have HL : Hid (L.length = n) := Lib.hid hr.1
  have h40 : n ≤ 40 := by rw [← HL.out]; exact (smallB_true hb).1
  have hn' : n ≤ 1099511627776 := by omega
  have hne : (chkV L a m == 0) = false := by simpa using hv
  clear hr hsz hn hb hv
  go_enter Try.func7, Try.ntmps7
  go_wp2_with fail
  refine (small_any HR.out HN.out HSZ.out).mono ?_
  rw [HBL.out]
  rintro e w1 ⟨rfl, hb1⟩
  have HB1 := Lib.hid hb1
  have HR1 := Lib.hid (HR.out.up hb1)
  clear hb1
  go_wp2_with fail
  refine (check_any (c := c) HR1.out HN.out HSZ.out a m).mono ?_
  rintro e w2 ⟨rfl, hb2⟩
  have HB2 := Lib.hid (HB1.out.trans (hb2.mono HB1.out.size))
  have HR2 := Lib.hid (HR1.out.up hb2)
  clear hb2
  go_wp2_with fail
  refine (useful_any (c := c) HR2.out hn' q).mono ?_
  rintro e w3 ⟨A3, c3', rfl, hr3, hb3⟩
  have HB3 := Lib.hid (HB2.out.trans (hb3.mono HB2.out.size))
  have HI3 := Lib.hid (hr3.mono fun b h => h.2)
  clear hb3 hr3
  obtain ⟨ul, hul⟩ : ∃ ul, atL (fun x : Veh => carB x.kinds q) L = ul := ⟨_, rfl⟩
  rw [hul]
  have HUL := Lib.hid hul
  have HIU : Hid (RdS w3 (· < w3.heap.size) A3 ul.length (ints ul)) := Lib.hid (by have := HI3.out; rwa [hul] at this)
  clear HI3
  have hull : ul.length ≤ n := by
    have h1 := atL_len (fun x : Veh => carB x.kinds q) L
    rw [hul, HL.out] at h1
    exact h1
  clear hul
  go_wp2_with fail
  go_loopw [11, 12] (fun at_ i wr => ∃ k : Nat, k ≤ n ∧ i = .int .i64 (k : Nat) ∧ at_ = .int .i64 ((atL (fun x : Veh => carB x.kinds q) (L.take k)).length : Nat) ∧ Below w3.heap.size w3 wr) (fun _ i _ => n - (intOf i).toNat)
  case atStart => exact ⟨0, Nat.zero_le _, rfl, rfl, Below.refl _ _⟩
  case round =>
    obtain ⟨k, hk, rfl, rfl, hbel⟩ := hrel
    have HBa := Lib.hid hbel
    have HB := Lib.hid (HB3.out.trans (hbel.mono HB3.out.size))
    clear hbel
    by_cases hlt : k < n
    · obtain ⟨x, hx⟩ := at_lt (l := L) (k := k) (by rw [HL.out]; exact hlt)
      obtain ⟨b, o, rfl, hb, hc⟩ := HR.out.2 (by omega)
      have HX := Lib.hid hx
      have HTK := Lib.hid (atL_take (fun x : Veh => carB x.kinds q) hx)
      have HAT := Lib.hid (fun hp : carB x.kinds q = true => atL_at (p := (fun x : Veh => carB x.kinds q)) hx hp)
      have i1 : (0 : Int) ≤ (k : Int) := by omega
      have i2 : (k : Int) < (n : Int) := by omega
      clear hx hc
      obtain ⟨wq, rfl⟩ : ∃ wq : World, wq = wr := ⟨_, rfl⟩
      have hcx := (HR.out.cells_ hlt HX.out HB.out).2
      have c0 := hcx 0 _ rfl
      rw [Nat.add_zero] at c0
      have c1 := hcx 1 _ rfl
      have c2 := hcx 2 _ rfl
      have c3 := hcx 3 _ rfl
      have c4 := hcx 4 _ rfl
      have c5 := hcx 5 _ rfl
      clear hcx
      go_wp2_with fail
      refine (kinds_any x _).mono ?_
      rintro e w4 ⟨A4, c4', rfl, hr4, hb4⟩
      have HB4 := Lib.hid (HB.out.trans (hb4.mono HB.out.size))
      have HBa4 := Lib.hid (HBa.out.trans (hb4.mono HBa.out.size))
      have HI4 := Lib.hid (hr4.mono fun b h => h.2)
      obtain ⟨kl, hkl⟩ : ∃ kl, kindsL x.kinds = kl := ⟨_, rfl⟩
      have hll := kindsK_len x.kinds 16
      have e16 : kindsK x.kinds 16 = kindsL x.kinds := rfl
      rw [e16, hkl] at hll
      have HKL := Lib.hid hkl
      have HK4 : Hid (RdS w4 (· < w4.heap.size) A4 kl.length (ints kl)) := Lib.hid (by have := HI4.out; rwa [hkl] at this)
      rw [hkl]
      clear hb4 hr4 hkl e16 c0 c1 c2 c3 c4 c5 HI4
      go_wp2_with fail
      go_loopw [14, 15] (fun nn kk wr => ∃ t : Nat, t ≤ 18 ∧ kk = .int .i64 ((t : Int) - 1) ∧ nn = .int .i64 (cntK x.kinds t : Nat) ∧ Below w4.heap.size w4 wr) (fun _ kk _ => (17 - intOf kk).toNat)
      case atStart => exact ⟨0, by omega, rfl, rfl, Below.refl _ _⟩
      case round =>
        obtain ⟨t, ht, rfl, rfl, hbel⟩ := hrel
        have HBb := Lib.hid hbel
        have HBB := Lib.hid (HB4.out.trans (hbel.mono HB4.out.size))
        have hcl := cntK_le x.kinds t
        clear hbel
        by_cases hlt2 : t < 18
        · have HCS := Lib.hid (cntK_succ x.kinds t)
          have hcx := (HR.out.cells_ hlt HX.out HBB.out).2
          have c0 := hcx 0 _ rfl
          rw [Nat.add_zero] at c0
          have c1 := hcx 1 _ rfl
          have c2 := hcx 2 _ rfl
          have c3 := hcx 3 _ rfl
          have c4 := hcx 4 _ rfl
          have c5 := hcx 5 _ rfl
          clear hcx
          obtain ⟨kz, hkz⟩ : ∃ kz : Int, (t : Int) - 1 = kz := ⟨_, rfl⟩
          have kz0 : -1 ≤ kz := by omega
          have kz1 : kz ≤ 16 := by omega
          cases hcb : carB x.kinds kz
          · have HCB := Lib.hid hcb
            clear hcb
            go_wp2_with fail
            refine (carries_any x kz _).mono ?_
            rw [HCB.out]
            rintro e w5 ⟨rfl, hb5⟩
            have HB5 := Lib.hid (HBb.out.trans (hb5.mono HBb.out.size))
            clear hb5
            go_wp2_with fail
            go_roundw
            case rel => exact ⟨t + 1, by omega, by rw [← hkz]; congr 1; omega, by rw [HCS.out, hkz, HCB.out]; rfl, HB5.out⟩
            case measure => simp [intOf]; omega
          · obtain ⟨z0, z1⟩ := carB_in hcb
            obtain ⟨s, rfl⟩ : ∃ s : Nat, kz = (s : Int) := ⟨kz.toNat, by omega⟩
            have hts : t = s + 1 := by omega
            obtain ⟨a1, a2⟩ := kindsK_at (by omega) hcb
            have hcn : cntK x.kinds t = (kindsK x.kinds s).length := by
              unfold cntK
              rw [hts, show min (s + 1 - 1) 16 = s by omega]
            rw [HKL.out, ← hcn] at a1 a2
            obtain ⟨nn, hnn⟩ : ∃ nn, cntK x.kinds t = nn := ⟨_, rfl⟩
            rw [hnn] at a1 a2 hcl
            have HNN := Lib.hid hnn
            have HCB := Lib.hid hcb
            clear hcb hcn hnn
            rw [HNN.out]
            go_wp2_with fail
            refine (carries_any x (s : Int) _).mono ?_
            rw [HCB.out]
            rintro e w5 ⟨rfl, hb5⟩
            have HB5 := Lib.hid (HBb.out.trans (hb5.mono HBb.out.size))
            obtain ⟨b', o', u, rfl, hb', hu, hcell⟩ := (HK4.out.below HB5.out).at_ a2
            have hu2 : u = .int .i64 (s : Int) := by
              unfold ints at hu
              rw [List.getElem?_map, a1] at hu
              exact (Option.some.inj hu).symm
            subst hu2
            have n1 : (0 : Int) ≤ (nn : Int) := by omega
            have n2 : (nn : Int) < (kl.length : Int) := by omega
            clear hb5 hu a1 c0 c1 c2 c3 c4 c5
            go_wp2_with fail
            go_roundw
            case rel => exact ⟨t + 1, by omega, by rw [← hkz]; congr 1; omega, by rw [HCS.out, hkz, HCB.out, HNN.out]; rfl, HB5.out⟩
            case measure => simp [intOf]; omega
        · obtain rfl : t = 18 := by omega
          have hcn : cntK x.kinds 18 = kl.length := by rw [← HKL.out]; rfl
          rw [hcn]
          have hcx := (HR.out.cells_ hlt HX.out HBB.out).2
          have c0 := hcx 0 _ rfl
          rw [Nat.add_zero] at c0
          have c1 := hcx 1 _ rfl
          have c2 := hcx 2 _ rfl
          have c3 := hcx 3 _ rfl
          have c4 := hcx 4 _ rfl
          have c5 := hcx 5 _ rfl
          clear hcx
          clear hcn hcl
          obtain ⟨an, han⟩ : ∃ an, (atL (fun x : Veh => carB x.kinds q) (L.take k)).length = an := ⟨_, rfl⟩
          have HAN := Lib.hid han
          have hand : an ≤ k := by
            have h1 := atL_len (fun x : Veh => carB x.kinds q) (L.take k)
            rw [han, List.length_take, HL.out] at h1
            omega
          rw [han]
          clear han
          cases hp : carB x.kinds q
          · have HP := Lib.hid hp
            clear hp
            go_wp2_with fail
            refine (carries_any x q _).mono ?_
            rw [HP.out]
            rintro e w6 ⟨rfl, hb6⟩
            have HB6 := Lib.hid (HBa4.out.trans ((HBb.out.trans (hb6.mono HBb.out.size)).mono HBa4.out.size))
            clear hb6
            go_wp2_with fail
            go_roundw
            case rel => exact ⟨k + 1, by omega, by go_num, by rw [HTK.out, List.length_append, HAN.out, HP.out]; rfl, HB6.out⟩
            case measure => simp [intOf]; omega
          · obtain ⟨a1, a2⟩ := HAT.out hp
            rw [HUL.out, HAN.out] at a1 a2
            have HP := Lib.hid hp
            clear hp
            go_wp2_with fail
            refine (carries_any x q _).mono ?_
            rw [HP.out]
            rintro e w6 ⟨rfl, hb6⟩
            have HB6 := Lib.hid (HBa4.out.trans ((HBb.out.trans (hb6.mono HBb.out.size)).mono HBa4.out.size))
            obtain ⟨b', o', u, rfl, hb', hu, hcell⟩ := (HIU.out.below HB6.out).at_ a2
            have hu2 : u = .int .i64 (k : Int) := by
              unfold ints at hu
              rw [List.getElem?_map, a1] at hu
              exact (Option.some.inj hu).symm
            subst hu2
            have n1 : (0 : Int) ≤ (an : Int) := by omega
            have n2 : (an : Int) < (ul.length : Int) := by omega
            clear hb6 hu a1 c0 c1 c2 c3 c4 c5
            go_wp2_with fail
            go_roundw
            case rel => exact ⟨k + 1, by omega, by go_num, by rw [HTK.out, List.length_append, HAN.out, HP.out]; go_num, HB6.out⟩
            case measure => simp [intOf]; omega
    · have e : k = n := by omega
      subst e
      have hfin : (atL (fun x : Veh => carB x.kinds q) (L.take k)).length = ul.length := by rw [List.take_of_length_le (by rw [HL.out]; exact Nat.le_refl _), HUL.out]
      rw [hfin]
      clear hfin
      go_wp2_with fail
      refine (awake_any _).mono ?_
      rintro e w9 ⟨rfl, hb9⟩
      have HB9 := Lib.hid (HB.out.trans (hb9.mono HB.out.size))
      clear hb9
      go_wp2
      go_ret
      exact ⟨rfl, HB9.out⟩
theorem walk (w : World) (v0 : Value) (hv0 : IsVehs w v0) (v1 : Value) (hv1 : IsInt .i64 v1) (v2 : Value) (hv2 : IsInt .i64 v2) (v3 : Value) (hv3 : IsInt .i64 v3) :
    Calls Try.prog 7 #[v0, v1, v2, v3] w fun e w' => e = .returned (.bool true) ∧ Below w.heap.size w w' := by
  obtain ⟨A, n, c, L, rfl, hr, hn, hnc, hok⟩ := hv0
  obtain ⟨a, rfl, _⟩ := hv1
  obtain ⟨m, rfl, _⟩ := hv2
  obtain ⟨q, rfl, _⟩ := hv3
  have hsz : ∀ x ∈ L, x.id.size ≤ maxLen := fun x hx => (hok x hx).1
  cases hb : smallB L
  · exact walk_small w A n c L a m q hr hn hsz hb
  · by_cases hv : chkV L a m = 0
    · exact walk_true w A n c L a m q hr hn hsz hb hv
    · exact walk_false w A n c L a m q hr hn hsz hb hv

theorem own : ownKnob Try.prog.godebug = none := by kernel_rfl
theorem laidOut : laidOutB Try.prog = true := by kernel_rfl
set_option maxRecDepth 100000 in
theorem lifted (os : Os) (started : os.Started) (H : Type) (enc : TypeId × Value → H) :
    ReturnsInHanded {} Try.checked os 7 .any (Rows.vehicleKindsSpec.pre6 enc Try.prog Try.f7 Rows.vehicleKindsRow.domain false) (Rows.vehicleKindsSpec.post enc Try.prog Try.f7 false true false false) := by
  refine returnsInHanded_of_change (C := Try.checked) own started (by kernel_rfl) Try.func7
    (ChangeSpec.witness6 (enc := enc) (C := Try.checked) false ⟨#[], #[.slice none 0 0, .int .i64 0, .int .i64 0, .int .i64 0], []⟩ 8 (by kernel_rfl) (by kernel_rfl) (by kernel_rfl) (by kernel_rfl)) ?_
  intro W base args ds gs before hval0 hW hcnd _
  have hval : ∀ (j : Nat) t v, Try.f7.params[j]? = some t → args[j]? = some v → Value.okWide Try.prog W .any base t v := hval0
  have hW' := hW
  obtain ⟨p, q, hA0, hV, rfl, hfz, hnd⟩ := hW
  have hA : DataW.TrodAll enc Try.prog W 0 (fun _ => true) true Try.f7.params.toList args.toList ds p := hA0
  rw [Try.params7] at hA hval
  obtain ⟨v0, vs0, d0, ds0, p0, q0, hargs, rfl, rfl, h0, r0⟩ := trodAll_cons hA
  obtain ⟨v1, vs1, d1, ds1, p1, q1, rfl, rfl, rfl, h1, r1⟩ := trodAll_cons r0
  obtain ⟨v2, vs2, d2, ds2, p2, q2, rfl, rfl, rfl, h2, r2⟩ := trodAll_cons r1
  obtain ⟨v3, vs3, d3, ds3, p3, q3, rfl, rfl, rfl, h3, r3⟩ := trodAll_cons r2
  obtain ⟨rfl, rfl, rfl⟩ := trodAll_nil r3
  obtain rfl : args = #[v0, v1, v2, v3] := by cases args; simp_all
  obtain ⟨rfl, rfl⟩ := trodVars_none hV
  have k0 := h0
  have lt0 : ∀ x ∈ p0, x.block < W.heap.size := by obtain ⟨m, hm⟩ := k0; exact DataW.trod_lt m _ _ _ hm
  have O0 := open_vehs W (hval 0 22 v0 rfl rfl) h0
  have k1 := h1
  have lt1 : ∀ x ∈ p1, x.block < W.heap.size := by obtain ⟨m, hm⟩ := k1; exact DataW.trod_lt m _ _ _ hm
  have O1 := open_int W (hval 1 3 v1 rfl rfl) h1
  have k2 := h2
  have lt2 : ∀ x ∈ p2, x.block < W.heap.size := by obtain ⟨m, hm⟩ := k2; exact DataW.trod_lt m _ _ _ hm
  have O2 := open_int W (hval 2 3 v2 rfl rfl) h2
  have k3 := h3
  have lt3 : ∀ x ∈ p3, x.block < W.heap.size := by obtain ⟨m, hm⟩ := k3; exact DataW.trod_lt m _ _ _ hm
  have O3 := open_int W (hval 3 3 v3 rfl rfl) h3
  clear hA0 hval0
  refine (walk W v0 O0 v1 O1 v2 O2 v3 O3).mono fun e W' ⟨he, bel⟩ => ?_
  subst he
  exact ⟨_, rfl, _, _, _, [], _, [], hW', trodAll_mk1 (shut_bool Try.underlying4 _), (trodAll_cons_mk (Below.trod laidOut (by kernel_rfl) (of_decide_eq_true (by kernel_rfl)) k0 bel lt0) (trodAll_cons_mk (Below.trod laidOut (by kernel_rfl) (of_decide_eq_true (by kernel_rfl)) k1 bel lt1) (trodAll_cons_mk (Below.trod laidOut (by kernel_rfl) (of_decide_eq_true (by kernel_rfl)) k2 bel lt2) (trodAll_cons_mk (Below.trod laidOut (by kernel_rfl) (of_decide_eq_true (by kernel_rfl)) k3 bel lt3) trodAll_mk0)))), rfl, bel.frame _, fun h => by cases h⟩
theorem over : Rows.vehicleKindsRow.holds Try.pinned (OpenSpec.ofChange Rows.vehicleKindsSpec) :=
  OpenClaim.holds_of_wide 7 Try.f7 rfl rfl rfl rfl rfl rfl rfl ⟨rfl, rfl, rfl, rfl, rfl⟩ rfl rfl rfl rfl rfl (by kernel_rfl) Try.func7 (by kernel_rfl)
    (of_decide_eq_true (by kernel_rfl)) (by unfold Func.isWrapper; first | (rw [if_pos (by decide +kernel)]; kernel_rfl) | (rw [if_neg (by decide +kernel)]; exact ⟨rfl, rfl⟩))
    (fun os started H enc _ => lifted os started H enc)
theorem proved : Rows.VehicleKindsSaid := over
#print axioms proved

end Go.Proofs.Ythalbjnjlgnndaa.vehicleKinds
