/- The iterator of ident's All: its contract for every loop body, and the methods of a nil table. -/
import Derived.RangeFuncNested
import Derived.RangeFuncBound
import Derived.RangeFuncCalls
import Derived.RangeFuncLeaves
import Derived.Shelf.Abstract
import Derived.Shelf.RegionOpen
import Derived.WalkKit
import Derived.OwnWalkIn
import Derived.TacticsInMore
import Derived.LoopNIn
import Derived.LoopIn
import Derived.Test.YtonlalfdpggioaaAwake
namespace Go.Proofs.Ytonlalfdpggioaa
open Go.RowKit Go.Shelf
attribute [local go_sem] Oper.semAt_some

/-- the numbers and names that have come when k rounds are over -/
def prs (ss : List ByteArray) (k : Nat) : List (Nat × ByteArray) := (List.range k).map fun j => (j, ss.getD j ⟨#[]⟩)
theorem prs_succ (ss : List ByteArray) (k : Nat) : prs ss (k + 1) = prs ss k ++ [(k, ss.getD k ⟨#[]⟩)] := by simp [prs, List.range_succ]
theorem prs_length (ss : List ByteArray) (k : Nat) : (prs ss k).length = k := by simp [prs]
abbrev encP (x : Nat × ByteArray) : Array Value := #[.int .i64 (x.1 : Int), .string x.2]

set_option maxRecDepth 100000 in
set_option maxHeartbeats 2000000 in
theorem all1_in (n : Nat) (hn : 1 ≤ n) (l Bs n₀ len cap : Nat) (A : Option Addr) (ss : List ByteArray) (hlen : len ≤ 1099511627776) (J Jx : List (Nat × ByteArray) → World → Prop)
    (hY : ∀ pre x W, J pre W → pre.length < len → YieldAt Fence.wide (n - 1) Try.prog l (encP x) W fun e W' =>
      (e = .returned (.bool true) ∧ J (pre ++ [x]) W' ∧ Below n₀ W W') ∨ (e = .returned (.bool false) ∧ Jx (pre ++ [x]) W'))
    (W : World) (hBs : W.cell? ⟨Bs, 0, none⟩ = some (.slice A len cap)) (hc : RdS W (· < n₀) A len (strs ss)) (h0 : J [] W) :
    CallsIn Fence.wide n Try.prog 27 #[.func (.yield l) #[] #[], .pointer (some ⟨Bs, 0, none⟩)] W fun e W' => (∃ v, e = .returned v) ∧
      ((∃ ys, ys = prs ss len ∧ J ys W') ∨ (∃ pre, (∃ k, k ≤ len ∧ pre = prs ss k) ∧ Jx pre W')) := by
  refine callsIn_of_wp Try.func27 rfl trivial ?_ rfl
  simp only [Try.ntmps27, List.size_toArray, List.length_cons, List.length_nil, Nat.reduceAdd, Nat.reduceSub, Array.replicate_succ, Array.replicate_zero, List.push_toArray, List.append_toArray, List.nil_append, List.cons_append]
  have HC := Lib.hid hc
  have HY := Lib.hid hY
  clear hc hY
  gi_wp2
  gi_loopw [7] (fun i wr => ∃ k : Nat, k ≤ len ∧ i = .int .i64 k ∧ J (prs ss k) wr ∧ Below n₀ W wr)
    (fun i _ => len - (intOf i).toNat)
  case atStart => exact ⟨0, Nat.zero_le _, rfl, h0, Below.refl _ _⟩
  case round =>
    obtain ⟨k, hk, rfl, hJs, hnx⟩ := hrel
    by_cases hlt : k < len
    · obtain ⟨b, o, u, rfl, hb, hu, hcell⟩ := (HC.out.below hnx).at_ hlt
      obtain ⟨s, hs⟩ := at_lt (l := ss) (k := k) (by have := HC.out.1; rw [strs_length] at this; omega)
      rw [strs_at hs] at hu
      cases hu
      have hgd : ss.getD k ⟨#[]⟩ = s := by simp [List.getD, hs]
      have HGD := Lib.hid hgd
      obtain ⟨fn, tmps, assign, body, hy, hR⟩ := HY.out _ (k, s) wr hJs (by rw [prs_length]; exact hlt)
      dsimp only [encP] at hy
      have HR := Lib.hid hR
      have HN := Lib.hid hnx
      clear hs hgd hR hnx hJs
      gi_wp2
      refine HR.out.mono ?_
      rintro e W3 (⟨rfl, hJ3, hk3⟩ | ⟨rfl, hJx3⟩)
      · have HJ := Lib.hid hJ3
        have HK := Lib.hid hk3
        clear hJ3 hk3
        gi_wp2
        go_roundw
        case rel => exact ⟨k + 1, by omega, by simp, by rw [prs_succ, HGD.out]; exact HJ.out, HN.out.trans HK.out⟩
        case measure => simp [intOf]; omega
      · have HJ := Lib.hid hJx3
        clear hJx3
        gi_wp2
        refine bodyPost_ret (results_none rfl _ _ _) rfl ?_
        exact ⟨⟨_, rfl⟩, .inr ⟨_, ⟨k + 1, by omega, rfl⟩, by rw [prs_succ, HGD.out]; exact HJ.out⟩⟩
    · obtain rfl : k = len := by omega
      have HJ := Lib.hid hJs
      clear hJs hnx
      gi_wp2
      go_end0
      exact ⟨⟨_, rfl⟩, .inl ⟨_, rfl, HJ.out⟩⟩

theorem all_stops (n : Nat) (hn : 1 ≤ n) (Bs n₀ len cap : Nat) (A : Option Addr) (ss : List ByteArray) (hlen : len ≤ 1099511627776) (w : World) (hBs : Bs < w.heap.size) (hn₀ : n₀ ≤ w.heap.size)
    (hc : w.cell? ⟨Bs, 0, none⟩ = some (.slice A len cap)) (hI : RdS w (· < n₀) A len (strs ss)) :
    SeqStopsK Fence.wide n Try.prog 27 #[.pointer (some ⟨Bs, 0, none⟩)] encP (Below n₀) (fun ys => ys = prs ss len)
      (fun pre => ∃ k, k ≤ len ∧ pre = prs ss k) len w := fun l J Jx W hW _ _ hY h0 => by
  have hc' := (hW.cell (p := ⟨Bs, 0, none⟩) hBs).trans hc
  exact all1_in n hn l Bs n₀ len cap A ss hlen J Jx hY W hc' (hI.below (hW.mono hn₀)) h0

theorem fn_nil (lb : Array Value) (w : World) : (binOp .eql 53 (.func (.func 27) #[] lb) .nilFunc).run Try.prog w = .ok (.bool false) w := by kernel_rfl

/-! ### the methods of a nil table -/
theorem add_nil (s : ByteArray) (w : World) : Calls Try.prog 17 #[.pointer none, .string s] w fun e w' => e = .returned (.tuple #[.int .i64 0, .int .i64 14]) ∧ w = w' := by
  go_enter Try.func17, Try.ntmps17
  go_wp2
  go_ret2
  exact ⟨rfl, rfl⟩
theorem find_nil (s : ByteArray) (w : World) : Calls Try.prog 19 #[.pointer none, .string s] w fun e w' => e = .returned (.tuple #[.int .i64 0, .bool false]) ∧ w = w' := by
  go_enter Try.func19, Try.ntmps19
  go_wp2
  go_ret2
  exact ⟨rfl, rfl⟩
theorem name_nil (i : Int) (w : World) : Calls Try.prog 21 #[.pointer none, .int .i64 i] w fun e w' => e = .returned (.tuple #[.string ⟨#[]⟩, .bool false]) ∧ w = w' := by
  go_enter Try.func21, Try.ntmps21
  go_wp2
  go_ret2
  exact ⟨rfl, rfl⟩
theorem len_nil (w : World) : Calls Try.prog 23 #[.pointer none] w fun e w' => e = .returned (.int .i64 0) ∧ w = w' := by
  go_enter Try.func23, Try.ntmps23
  go_wp2
  go_ret
  exact ⟨rfl, rfl⟩
theorem all_nil (w : World) : Calls Try.prog 24 #[.pointer none] w fun e w' => e = .returned (.func (.func 27) #[] #[.pointer (some ⟨w.heap.size, 0, none⟩)]) ∧ w' = w.alloc (.cells #[.slice none 0 0] 24) := by
  go_enter Try.func24, Try.ntmps24
  go_wp2
  go_ret
  exact ⟨rfl, rfl⟩
end Go.Proofs.Ytonlalfdpggioaa
