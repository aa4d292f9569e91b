/- Contracts of the program's functions that trim polynomials. -/
import Derived.Test.YtkmblobfamhoiaaGrC
import Derived.Test.YtkmblobfamhoiaaPureH
namespace Go.Proofs.Ytkmblobfamhoiaa
open Go.RowKit
set_option maxRecDepth 4000

theorem SI.take {w : World} {A : Option Addr} {zs : List Int} (h : SI w A zs) (k : Nat) : SI w A (zs.take k) := by
  refine ⟨by have := h.1; simp at this ⊢; omega, fun j v hj => ?_⟩
  rw [List.map_take] at hj
  by_cases hk : j < k
  · rw [List.getElem?_take_of_lt hk] at hj; exact h.2 j v hj
  · rw [List.getElem?_take_eq_none (by omega)] at hj; cases hj

theorem RetN.of {w w' : World} {x y : Int} (h : x = y) (hb : Below w.heap.size w w') : Ending.returned (.int .i64 x) = .returned (.int .i64 y) ∧ Below w.heap.size w w' := ⟨by rw [h], hb⟩

end Go.Proofs.Ytkmblobfamhoiaa
