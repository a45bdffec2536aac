/- Contracts of road.network, graph.Check (arcs in range), road.Check. -/
import Derived.Test.YtmoakdplhfgipaaRoaC
namespace Go.Proofs.Ytmoakdplhfgipaa
set_option maxRecDepth 20000
open Go.RowKit Go.Maps

theorem if_go {c : Bool} {A E : Prop} (hc : c = true) (h : A) : if c = true then A else E := by rw [if_pos hc]; exact h
/-- the cells of a list of structs -/
def flR {α : Type} (f : α → List Value) (L : List α) : List Value := (L.map f).flatten
theorem flR_snoc {α : Type} (f : α → List Value) (L : List α) (x : α) : flR f (L ++ [x]) = flR f L ++ f x := by simp [flR]
theorem own_rows {α : Type} {f : α → List Value} {s : Nat} (hf : ∀ x, (f x).length = s) {w : World} {base : Nat} {e : TypeId} {v : Value} {L : List α} (h : w.ownsRow base e s v L.length (flR f L)) : ∃ A c, v = .slice A L.length c ∧ L.length ≤ c ∧ RdT w (fun b => base ≤ b ∧ b < w.heap.size) s f A L.length L := by
  rcases Nat.eq_zero_or_pos L.length with h0 | h0
  · have hL : L = [] := List.eq_nil_of_length_eq_zero h0
    subst hL
    rcases h.2 with ⟨rfl, _⟩ | ⟨g, cap, cur, rfl, _⟩
    · exact ⟨none, 0, rfl, Nat.le_refl _, RdT.none_⟩
    · exact ⟨_, _, rfl, Nat.zero_le _, rfl, fun h => absurd h (by simp)⟩
  · obtain ⟨g, cap, rfl, hb, hlt⟩ := h.form h0
    have hcap : L.length ≤ cap := by
      rcases h.2 with ⟨h1, _⟩ | ⟨g', cap', cur, h1, _, _, h2, _⟩
      · cases h1
      · injection h1 with _ _ h3
        omega
    refine ⟨_, _, rfl, hcap, rfl, fun _ => ⟨g, 0, rfl, ⟨hb, hlt⟩, fun i x hx j u hu => ?_⟩⟩
    have h1 := h.cells (g := g) rfl (i * s + j) u (flat_at (f := f) (s := s) hf L i j x u hx hu)
    unfold Addr.add at h1
    split at h1
    · rename_i h2; rw [h2]; simpa using h1
    · simpa using h1
theorem own_keepR {w w' : World} {base s : Nat} {e : TypeId} {v : Value} {n : Nat} {xs : List Value} (h : w.ownsRow base e s v n xs) (hb : Below w.heap.size w w') : w'.ownsRow base e s v n xs :=
  h.kept (row := none) ⟨hb.os, hb.tape, hb.output, hb.size, fun i hi _ => hb.block i hi⟩ (by cases h : v.ownBlock <;> simp)

theorem Blk.new_at (w : World) (t : TypeId) (cs : Array Value) {k : Nat} (hk : w.heap.size = k) : Blk (w.alloc (.cells cs t)) k t cs := by subst hk; exact Blk.new w t cs
theorem news_at {w : World} {k : Nat} (t : TypeId) (cs : Array Value) (hk : w.heap.size = k) : ∀ j u, cs.toList[j]? = some u → (w.alloc (.cells cs t)).cell? ((⟨k, 0, none⟩ : Addr).add j) = some u := World.news_of_block (Blk.new_at w t cs hk)
theorem own_far {w : World} {base s : Nat} {e : TypeId} {v : Value} {n : Nat} {xs : List Value} (h : w.ownsRow base e s v n xs) (p : Addr) (u : Value) (hp : v.ownBlock ≠ some p.block) : (w.setCell p u).ownsRow base e s v n xs :=
  h.kept (row := some p.block) ⟨rfl, rfl, rfl, by simp [World.setCell], fun k hk hne => Below.heap_setCell w p u k (fun e => hne (by rw [e]))⟩ (.inr hp)
theorem own_ne {w : World} {base s : Nat} {e : TypeId} {v : Value} {n : Nat} {xs : List Value} (h : w.ownsRow base e s v n xs) {q : Nat} (hq : q < base) : v.ownBlock ≠ some q := fun e => by have := (h.lt q e).1; omega
theorem below_set {B : Nat} {w w' : World} (h : Below B w w') {p : Addr} (hp : B ≤ p.block) (u : Value) : Below B w (w'.setCell p u) := ⟨h.os, h.tape, h.output, by simpa [World.setCell] using h.size, fun b hb => (Below.heap_setCell w' p u b (by omega)).trans (h.block b hb)⟩
def arcOf (x : Edg) : Arc2 := ⟨x.f, x.t⟩
theorem infoA : (Try.prog.info? 116).map (fun i => (i.zero, i.size, i.bytes)) = some (some (.agg #[.int .i64 0, .int .i64 0]), 2, 16) := by kernel_rfl

set_option maxRecDepth 100000 in
set_option maxHeartbeats 1600000 in
theorem network_any {w : World} {A : Option Addr} {nE cE : Nat} {n : Int} {E : List Edg} (h : RdT w (· < w.heap.size) 4 Edg.cs A nE E) (hn : nE ≤ 512) :
    Calls Try.prog 33 #[.agg #[.int .i64 n, .slice A nE cE]] w fun e w' => ∃ A' c, e = .returned (.agg #[.int .i64 n, .slice A' nE c]) ∧ RdT w' (· < w'.heap.size) 2 Arc2.cs A' nE (E.map arcOf) ∧ Below w.heap.size w w' := by
  have hlen := h.1
  have K0 := Blk.new w 24 #[.int .i64 n, .slice A nE cE]
  have hw0 : w.heap.size < (w.alloc (.cells #[.int .i64 n, .slice A nE cE] 24)).heap.size := by simp
  have HB0 : Hid (Below w.heap.size w (w.alloc (.cells #[.int .i64 n, .slice A nE cE] 24))) := Lib.hid (by go_grown)
  have q0 := K0.cell 0
  have q1 := K0.cell 1
  simp at q0 q1
  have HL := Lib.hid hlen
  have HM := Lib.hid h
  have HK0 := Lib.hid K0
  obtain ⟨i0, hi, hz0, hz1, hz2⟩ := info_parts infoA
  clear h hlen K0
  go_enter Try.func33, Try.ntmps33
  go_wp2
  go_loopw [12] (fun i wr => ∃ k : Nat, k ≤ nE ∧ i = .int .i64 (k : Nat) ∧ ∃ o, wr.ownsRow (w.heap.size + 3) 116 2 o k (flR Arc2.cs ((E.take k).map arcOf)) ∧ Blk wr (w.heap.size + 1) 87 #[.int .i64 0, .slice none 0 0] ∧ Blk wr (w.heap.size + 1 + 1) 87 #[.int .i64 n, o] ∧ Below w.heap.size w wr) (fun i _ => nE - (intOf i).toNat)
  case atStart =>
    refine ⟨0, Nat.zero_le _, rfl, _, World.ownsRow_nil _ _ _ _, ((Blk.new_at _ _ _ (by simp)).alloc _), Blk.new_at _ _ _ (by simp), by go_grown⟩
  case round =>
    obtain ⟨k, hk, rfl, row, hown, hbk1, hbk2, hbel⟩ := hrel
    have HO := Lib.hid hown
    have HK1 := Lib.hid hbk1
    have HK2 := Lib.hid hbk2
    have HB := Lib.hid hbel
    have hsz := hbel.size
    have y0 := hbk2.cell 0
    have y1 := hbk2.cell 1
    simp at y0 y1
    have z1 := hbk1.lt
    have z2 := hbk2.lt
    have l0 := hbk1.cell 0
    have l1 := hbk1.cell 1
    simp at l0 l1
    have f1 := hbk1.frozen 0
    have f2 := hbk1.frozen 1
    clear hown hbk1 hbk2 hbel
    by_cases hlt : k < nE
    · obtain ⟨x, hx⟩ := at_lt (l := E) (k := k) (by rw [HL.out]; exact hlt)
      obtain ⟨b, o, rfl, hb, hc⟩ := HM.out.2 (by omega)
      have hcx := (HM.out.cells_ hlt hx HB.out).2
      have c0 := hcx 0 _ rfl
      rw [Nat.add_zero] at c0
      have c1 := hcx 1 _ rfl
      have c2 := hcx 2 _ rfl
      have c3 := hcx 3 _ rfl
      clear hcx hc
      have HT : Hid (flR Arc2.cs ((E.take (k + 1)).map arcOf) = flR Arc2.cs ((E.take k).map arcOf) ++ [.int .i64 x.f, .int .i64 x.t]) := Lib.hid (by rw [List.take_add_one, hx]; simp [flR, arcOf, Arc2.cs])
      clear hx
      obtain ⟨f, t, m, s⟩ := x
      simp only at c0 c1 c2 c3 HT
      go_wp2_with (at_builtin; refine wpList_append_lies _ rfl _ _ 85 rfl (w.heap.size + 3) 116 i0 (.agg #[.int .i64 0, .int .i64 0]) 2 16 Try.underlying85 hi hz0 hz1 hz2 rfl (by decide) row k _ rfl ((HO.out.alloc _).alloc _) ⟨_, 0, none⟩ 1 1 [.int .i64 f, .int .i64 t] rfl rfl (news_at _ _ (by simp)) (by intro u hu; simp at hu; rcases hu with rfl | rfl <;> rfl) (by decide) (by unfold maxLen; omega) (by omega) (by simp; omega) _ rfl ?_; intro g9 cap9 w2 hown1 hgrow _ _; have HO2 := Lib.hid hown1; have hk1 := ((HK1.out.alloc _).alloc _).keep (hgrow.block _ (by simp; omega) (fun e => own_ne HO.out (q := w.heap.size + 1) (by omega) e.symm)); have hk2 := ((HK2.out.alloc _).alloc _).keep (hgrow.block _ (by simp; omega) (fun e => own_ne HO.out (q := w.heap.size + 1 + 1) (by omega) e.symm)); have HK1' := Lib.hid hk1; have HK2' := Lib.hid hk2; have x0 := hk2.cell 0; have x1 := hk2.cell 1; have x2 := hk2.frozen 1; simp at x0 x1; have HB2 := Lib.hid (((HB.out.alloc hsz _).alloc (by simp; omega) _).grown hgrow (by simp; omega) (fun j e => by have := (HO.out.lt j e).1; omega)); clear hk1 hk2 hown1 hgrow)
      go_roundw
      case rel => exact ⟨k + 1, by omega, by go_num, _, by rw [HT.out]; exact own_far HO2.out _ _ (own_ne HO2.out (by show w.heap.size + 1 + 1 < _; omega)), HK1'.out.far (by simp) _, HK2'.out.set_ 1 _, below_set HB2.out (by simp; omega) _⟩
      case measure => simp [intOf]; omega
    · have e : k = nE := by omega
      subst e
      have HT : Hid ((E.take k).map arcOf = E.map arcOf) := Lib.hid (by rw [List.take_of_length_le (by rw [HL.out]; exact Nat.le_refl _)])
      rw [HT.out] at HO
      have hle : (E.map arcOf).length = k := by rw [List.length_map, HL.out]
      have ho2 : wr.ownsRow (w.heap.size + 3) 116 2 row (E.map arcOf).length (flR Arc2.cs (E.map arcOf)) := by rw [hle]; exact HO.out
      obtain ⟨A', c', rfl, hcap, hrd⟩ := own_rows (f := Arc2.cs) (fun _ => rfl) ho2
      rw [hle] at hrd
      rw [hle] at y1
      have HRD := Lib.hid hrd
      have HTT := Lib.hid hle
      clear hrd ho2 hle
      go_wp2
      have d0 := ((HK1.out.set_ 0 (.int .i64 n)).set_ 1 (.slice A' k c')).cell 0
      have d1 := ((HK1.out.set_ 0 (.int .i64 n)).set_ 1 (.slice A' k c')).cell 1
      simp at d0 d1
      refine bodyPost_ret (v := .agg #[.int .i64 n, .slice A' k c']) (by simp [results, Try.results33, go_sem, d0, d1]) rfl ⟨A', c', rfl, ?_, ?_⟩
      · refine (HRD.out.keep (fun b hb => ?_)).mono (S' := fun b => b < _) (fun b hb => by simpa [World.setCell] using hb.2)
        rw [Below.heap_setCell _ _ _ b (by show b ≠ w.heap.size + 1; omega), Below.heap_setCell _ _ _ b (by show b ≠ w.heap.size + 1; omega)]
      · exact below_set (below_set HB.out (by simp) _) (by simp) _

/-- arcs in range: graph.Check returns OK -/
theorem gcheck_any {w : World} {A : Option Addr} {nE cE : Nat} {n : Int} {E : List Arc2} (h : RdT w (· < w.heap.size) 2 Arc2.cs A nE E) (hn : nE ≤ 512) (h1 : 1 ≤ n) (h2 : n ≤ 64) (hr : ∀ x ∈ E, 0 ≤ x.f ∧ x.f < n ∧ 0 ≤ x.t ∧ x.t < n) :
    Calls Try.prog 32 #[.agg #[.int .i64 n, .slice A nE cE]] w fun e w' => e = .returned (.int .i64 0) ∧ Below w.heap.size w w' := by
  have hlen := h.1
  have K0 := Blk.new w 87 #[.int .i64 n, .slice A nE cE]
  have HB0 : Hid (Below w.heap.size w (w.alloc (.cells #[.int .i64 n, .slice A nE cE] 87))) := Lib.hid (by go_grown)
  have q0 := K0.cell 0
  have q1 := K0.cell 1
  simp at q0 q1
  have HL := Lib.hid hlen
  have HM := Lib.hid h
  have HR := Lib.hid hr
  have HK0 := Lib.hid K0
  clear h hlen K0 hr
  go_enter Try.func32, Try.ntmps32
  go_wp2
  go_loopw [20] (fun i wr => ∃ k : Nat, k ≤ nE ∧ i = .int .i64 (k : Nat) ∧ Blk wr w.heap.size 87 #[.int .i64 n, .slice A nE cE] ∧ Below w.heap.size w wr) (fun i _ => nE - (intOf i).toNat)
  case atStart => exact ⟨0, Nat.zero_le _, rfl, HK0.out, HB0.out⟩
  case round =>
    obtain ⟨k, hk, rfl, hbk, hbel⟩ := hrel
    have HB := Lib.hid hbel
    have HK := Lib.hid hbk
    have r0 := hbk.cell 0
    have r1 := hbk.cell 1
    simp at r0 r1
    have zlt := hbk.lt
    clear hbel hbk
    by_cases hlt : k < nE
    · obtain ⟨x, hx⟩ := at_lt (l := E) (k := k) (by rw [HL.out]; exact hlt)
      obtain ⟨b, o, rfl, hb, hc⟩ := HM.out.2 (by omega)
      have hcx := (HM.out.cells_ hlt hx HB.out).2
      have c0 := hcx 0 _ rfl
      rw [Nat.add_zero] at c0
      have c1 := hcx 1 _ rfl
      obtain ⟨n1, n2, n3, n4⟩ := HR.out x (List.mem_of_getElem? hx)
      clear hcx hc hx
      obtain ⟨f, t⟩ := x
      simp only at c0 c1 n1 n2 n3 n4
      go_wp2
      go_roundw
      case rel => exact ⟨k + 1, by omega, by go_num, HK.out.alloc _, bthen HB.out (by go_grown) HB.out.size⟩
      case measure => simp [intOf]; omega
    · have e : k = nE := by omega
      subst e
      go_wp2
      go_ret
      exact ⟨rfl, HB.out⟩
end Go.Proofs.Ytmoakdplhfgipaa
