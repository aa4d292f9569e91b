/- Contracts of the program's sums and multiples of polynomials. -/
import Derived.Test.YtkmblobfamhoiaaPolyE
namespace Go.Proofs.Ytkmblobfamhoiaa
open Go.RowKit
set_option maxRecDepth 4000

theorem tab_ext {m : Nat} {f g : Nat → Int} (h : ∀ j, j < m → f j = g j) : tab m f = tab m g := by
  refine List.ext_getElem? fun j => ?_
  by_cases hj : j < m
  · rw [tab_at _ hj, tab_at _ hj, h j hj]
  · rw [List.getElem?_eq_none (by rw [tab_length]; omega), List.getElem?_eq_none (by rw [tab_length]; omega)]

theorem tab_set {m k : Nat} (f : Nat → Int) (v : Int) : (tab m f).set k v = tab m fun j => if j = k then v else f j := by
  refine List.ext_getElem? fun j => ?_
  rw [List.getElem?_set, tab_length]
  by_cases hj : j < m
  · by_cases hk : k = j
    · subst hk; rw [if_pos rfl, if_pos hj, tab_at _ hj, if_pos rfl]
    · rw [if_neg hk, tab_at _ hj, tab_at _ hj, if_neg (Ne.symm hk)]
  · rw [List.getElem?_eq_none (l := tab m _) (by rw [tab_length]; omega), List.getElem?_eq_none (l := tab m _) (by rw [tab_length]; omega)]
    by_cases hk : k = j
    · subst hk; rw [if_pos rfl, if_neg hj]
    · rw [if_neg hk]

theorem tab_zero (m : Nat) : List.replicate m 0 = tab m fun _ => 0 := by
  refine List.ext_getElem? fun j => ?_
  by_cases hj : j < m
  · rw [tab_at _ hj]; simp [hj]
  · rw [List.getElem?_eq_none (by simp; omega), List.getElem?_eq_none (by rw [tab_length]; omega)]

theorem getD_of {p : List Int} {k : Nat} {x : Int} (h : p[k]? = some x) : p.getD k 0 = x := by
  rw [List.getD_eq_getElem?_getD, h]; rfl

end Go.Proofs.Ytkmblobfamhoiaa
