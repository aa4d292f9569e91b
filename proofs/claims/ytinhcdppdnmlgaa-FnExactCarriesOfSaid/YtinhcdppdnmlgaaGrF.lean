/- Merged out of the texts SpecA SpecB SpecC. -/
import Derived.Test.YtinhcdppdnmlgaaProg
import Derived.Test.YtinhcdppdnmlgaaGrA
import Derived.Test.YtinhcdppdnmlgaaMem
import Derived.Test.YtinhcdppdnmlgaaGrC
import Derived.StillTailTactics
import Derived.Deep.RegionLaw
/- Contracts of the reference's small functions on numbers and lists of numbers. -/
namespace Go.Proofs.Ytinhcdppdnmlgaa
open Go.RowKit
set_option maxRecDepth 4000

def in2 (n lo hi : Int) : Bool := decide (lo ≤ n) && decide (n ≤ hi)

theorem l1In_any (n lo hi : Int) (w : World) :
    Calls Try.prog 21 #[.int .i64 n, .int .i64 lo, .int .i64 hi] w fun e w' => e = .returned (.bool (in2 n lo hi)) ∧ w = w' := by
  by_cases h1 : lo ≤ n
  · by_cases h2 : n ≤ hi
    · have Hf : Hid (in2 n lo hi = true) := hd (by simp [in2, h1, h2])
      go_enter Try.func21, Try.ntmps21
      go_wp2
      go_ret
      exact ⟨ret_bool Hf.out.symm, rfl⟩
    · have Hf : Hid (in2 n lo hi = false) := hd (by simp [in2, h2])
      go_enter Try.func21, Try.ntmps21
      go_wp2
      go_ret
      exact ⟨ret_bool Hf.out.symm, rfl⟩
  · have Hf : Hid (in2 n lo hi = false) := hd (by simp [in2, h1])
    go_enter Try.func21, Try.ntmps21
    go_wp2
    go_ret
    exact ⟨ret_bool Hf.out.symm, rfl⟩

end Go.Proofs.Ytinhcdppdnmlgaa

/- Contracts of the reference's lists of values and of differences. -/
namespace Go.Proofs.Ytinhcdppdnmlgaa
open Go.RowKit
set_option maxRecDepth 4000

/-- The values of a polynomial at from, from + step, .., cnt of them; all arguments small. -/
theorem tab_take_succ (n : Nat) (f : Nat → Int) (k : Nat) (hk : k < n) : (tab n f).take (k + 1) = (tab n f).take k ++ [f k] := by
  have h := tab_at f hk
  obtain ⟨h1, h2⟩ := List.getElem?_eq_some_iff.1 h
  rw [List.take_succ_eq_append_getElem h1, h2]

theorem nbr_take_succ (zs : List Int) (k : Nat) (x y : Int) (h : zs[k]? = some x) (h' : zs[k + 1]? = some y) : (nbr zs).take (k + 1) = (nbr zs).take k ++ [y - x] := by
  have h := nbr_at zs k x y h h'
  obtain ⟨h1, h2⟩ := List.getElem?_eq_some_iff.1 h
  rw [List.take_succ_eq_append_getElem h1, h2]

end Go.Proofs.Ytinhcdppdnmlgaa

/- Contracts of the reference's functions that step and turn polynomials. -/
namespace Go.Proofs.Ytinhcdppdnmlgaa
open Go.RowKit
set_option maxRecDepth 4000

theorem RetO.lit {E : TypeId} {w w' : World} {r : Option (List Int)} (h : r = none) (hb : Below w.heap.size w w') : RetO E w.heap.size w r (.returned (.tuple #[.slice (some ⟨w'.heap.size, 0, none⟩) 0 0, .bool false])) (w'.alloc (.cells #[] E)) := by
  subst h
  exact ⟨_, _, rfl, (OwnI.lit0 E w').low hb.size, hb.alloc hb.size _⟩

end Go.Proofs.Ytinhcdppdnmlgaa
