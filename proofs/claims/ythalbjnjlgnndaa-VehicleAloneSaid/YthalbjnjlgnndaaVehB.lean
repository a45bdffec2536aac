/- A vehicle with another kind: the bits; a larger vehicle (for VehicleMore). -/
import Derived.Test.YthalbjnjlgnndaaVehF
namespace Go.Proofs.Ythalbjnjlgnndaa
open Go.RowKit

theorem fitP_more {g m : Int} {l : List Int} (h : fitP g l) (hm : 0 ≤ m) : fitP (g + m) l := ⟨by have := h.1; omega, h.2.1, by have := h.2.2; omega⟩
theorem ofInt_nat (a : Nat) (ha : a < 9223372036854775808) : (BitVec.ofInt 64 (a : Int)).toNat = a := by
  rw [BitVec.ofInt_natCast, BitVec.toNat_ofNat]; exact Nat.mod_eq_of_lt (by omega)
theorem or_nat (a b : Nat) (ha : a < 9223372036854775808) (hb : b < 9223372036854775808) : bits .or .i64 (a : Int) (b : Int) = ((a ||| b : Nat) : Int) := by
  have hx : a ||| b < 2 ^ 63 := Nat.or_lt_two_pow (by omega) (by omega)
  show IntKind.i64.wrap ((BitVec.ofInt 64 (a : Int) ||| BitVec.ofInt 64 (b : Int)).toNat : Int) = _
  rw [BitVec.toNat_or, ofInt_nat a ha, ofInt_nat b hb, IntKind.wrap_i64]
  omega
theorem carB_nat (a k : Nat) (hk : k < 16) : carB (a : Int) (k : Int) = a.testBit k := by
  unfold carB
  rw [decide_eq_true (by omega : (0 : Int) ≤ (k : Int) ∧ (k : Int) < 16), Bool.true_and, Int.toNat_natCast, Nat.testBit_eq_decide_div_mod_eq]
  have h : ((a : Int) / 2 ^ k % 2 = 1) ↔ (a / 2 ^ k % 2 = 1) := by
    have e : ((a / 2 ^ k % 2 : Nat) : Int) = (a : Int) / 2 ^ k % 2 := by simp
    omega
  exact decide_eq_decide.2 h
theorem or_bits {kinds q : Int} (h0 : 0 ≤ kinds) (h1 : kinds < 65536) (q0 : 0 ≤ q) (q1 : q < 16) :
    ∃ kk, bits .or .i64 kinds (2 ^ q.toNat) = kk ∧ ∀ k : Nat, k < 16 → carB kk (k : Int) = (carB kinds (k : Int) || decide ((k : Int) = q)) := by
  obtain ⟨a, rfl⟩ := Int.eq_ofNat_of_zero_le h0
  obtain ⟨t, rfl⟩ := Int.eq_ofNat_of_zero_le q0
  have hp : (2 : Nat) ^ t < 65536 := by
    have : (2 : Nat) ^ t < 2 ^ 16 := Nat.pow_lt_pow_right (by decide) (by omega)
    simpa using this
  refine ⟨((a ||| 2 ^ t : Nat) : Int), ?_, fun k hk => ?_⟩
  · have := or_nat a (2 ^ t) (by omega) (by omega)
    simpa using this
  · rw [carB_nat _ k hk, carB_nat _ k hk, Nat.testBit_or, Nat.testBit_two_pow]
    congr 1
    apply decide_eq_decide.2
    omega
theorem pow_bd0 (m : Int) (h1 : 0 ≤ m) (h2 : m < 16) : 1 ≤ (2 : Int) ^ m.toNat ∧ (2 : Int) ^ m.toNat ≤ 65536 := by
  by_cases h : m = 0
  · subst h; decide
  · have := pow_bd m (by omega) (by omega); omega
theorem carries_c (id : ByteArray) (d f t g kinds k : Int) (w : World) :
    Calls Try.prog 14 #[.agg #[.string id, .int .i64 d, .int .i64 f, .int .i64 t, .int .i64 g, .int .i64 kinds], .int .i64 k] w fun e w' => e = .returned (.bool (carB kinds k)) ∧ Below w.heap.size w w' := carries_any ⟨id, d, f, t, g, kinds⟩ k w
end Go.Proofs.Ythalbjnjlgnndaa
