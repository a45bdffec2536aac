/- Contracts of Kinds, Useful, Ints, Fits, of the program and of the reference. -/
import Derived.Test.YtmoakdplhfgipaaVeh
namespace Go.Proofs.Ytmoakdplhfgipaa
set_option maxRecDepth 20000
open Go.RowKit Go.Maps

def kindsK (kinds : Int) (k : Nat) : List Nat := (List.range k).filter fun j => carB kinds (j : Int)
theorem kindsK_succ (kinds : Int) (k : Nat) : kindsK kinds (k + 1) = kindsK kinds k ++ if carB kinds (k : Int) then [k] else [] := by
  unfold kindsK
  rw [List.range_succ, List.filter_append]
  cases h : carB kinds (k : Int) <;> simp [h]
theorem kindsK_len (kinds : Int) (k : Nat) : (kindsK kinds k).length ≤ k := by
  unfold kindsK
  have := List.length_filter_le (fun j : Nat => carB kinds (j : Int)) (List.range k)
  simpa using this

end Go.Proofs.Ytmoakdplhfgipaa
