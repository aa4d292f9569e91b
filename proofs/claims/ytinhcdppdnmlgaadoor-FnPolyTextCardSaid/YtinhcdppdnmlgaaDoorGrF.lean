/- Merged out of the texts SpecA SpecB SpecC. -/
import Derived.Test.YtinhcdppdnmlgaaDoorProg
import Derived.Test.YtinhcdppdnmlgaaDoorGrA
import Derived.Test.YtinhcdppdnmlgaaDoorMem
import Derived.Test.YtinhcdppdnmlgaaDoorGrC
import Derived.StillTailTactics
import Derived.Deep.RegionLaw
/- Contracts of the reference's small functions on numbers and lists of numbers. -/
namespace Go.Proofs.YtinhcdppdnmlgaaDoor
open Go.RowKit
set_option maxRecDepth 4000

def in2 (n lo hi : Int) : Bool := decide (lo ≤ n) && decide (n ≤ hi)

theorem l1In_any (n lo hi : Int) (w : World) :
    Calls Tryd.prog 48 #[.int .i64 n, .int .i64 lo, .int .i64 hi] w fun e w' => e = .returned (.bool (in2 n lo hi)) ∧ w = w' := by
  by_cases h1 : lo ≤ n
  · by_cases h2 : n ≤ hi
    · have Hf : Hid (in2 n lo hi = true) := hd (by simp [in2, h1, h2])
      go_enter Tryd.func48, Tryd.ntmps48
      go_wp2
      go_ret
      exact ⟨ret_bool Hf.out.symm, rfl⟩
    · have Hf : Hid (in2 n lo hi = false) := hd (by simp [in2, h2])
      go_enter Tryd.func48, Tryd.ntmps48
      go_wp2
      go_ret
      exact ⟨ret_bool Hf.out.symm, rfl⟩
  · have Hf : Hid (in2 n lo hi = false) := hd (by simp [in2, h1])
    go_enter Tryd.func48, Tryd.ntmps48
    go_wp2
    go_ret
    exact ⟨ret_bool Hf.out.symm, rfl⟩

theorem sPolyValid_any (A : Option Addr) (c : Nat) (p : List Int) (w : World) (h : SI w A p) :
    Calls Tryd.prog 31 #[.slice A p.length c] w fun e w' => e = .returned (.bool (validP p)) ∧ w = w' := by
  have hl := h.len
  have Hh := hd h
  clear h
  go_enter Tryd.func31, Tryd.ntmps31
  go_wp2
  go_loop [3] (fun i => ∃ k : Nat, k ≤ p.length ∧ i = .int .i64 k ∧ (p.take k).all (fun x => inB x 100000) = true) (fun i => p.length - (intOf i).toNat)
  case atStart => exact ⟨0, by omega, rfl, by simp⟩
  case round =>
    obtain ⟨k, hk, rfl, ht⟩ := hrel
    have Ht := hd ht
    clear ht
    by_cases hlt : k < p.length
    · obtain ⟨x, b0, off, hx, rfl, hbw, hc⟩ := Hh.out.at_ hlt
      have Hx := hd hx
      clear hx
      by_cases hin : in2 x (-100000) 100000 = true
      · go_wp2_with (go_at_call 48; refine (l1In_any x (-100000) 100000 _).mono ?_; rintro e w' ⟨rfl, rfl⟩)
        go_round
        case rel => exact ⟨k + 1, by omega, by go_num, all_take_succ _ _ _ _ Hx.out Ht.out hin⟩
        case measure => simp [intOf]; omega
      · have hin' : in2 x (-100000) 100000 = false := by simpa using hin
        clear hin
        have Hf : Hid (validP p = false) := hd (by
          have := all_false_of (fun x => inB x 100000) p k x Hx.out hin'
          simp [validP, allB, this])
        go_wp2_with (go_at_call 48; refine (l1In_any x (-100000) 100000 _).mono ?_; rintro e w' ⟨rfl, rfl⟩)
        go_ret
        exact ⟨ret_bool Hf.out.symm, rfl⟩
    · have hke : k = p.length := by omega
      have Hf : Hid (validP p = in2 p.length 1 7) := hd (by
        have := Ht.out
        rw [hke, List.take_length] at this
        have h2 : allB p 100000 = true := this
        rw [Bool.eq_iff_iff]
        simp [validP, h2, in2]
        omega)
      clear hke
      go_wp2_with (go_at_call 48; refine (l1In_any p.length 1 7 _).mono ?_; rintro e w' ⟨rfl, rfl⟩)
      go_ret
      exact ⟨ret_bool Hf.out.symm, rfl⟩

end Go.Proofs.YtinhcdppdnmlgaaDoor

/- Contracts of the reference's lists of values and of differences. -/
namespace Go.Proofs.YtinhcdppdnmlgaaDoor
open Go.RowKit
set_option maxRecDepth 4000

/-- The values of a polynomial at from, from + step, .., cnt of them; all arguments small. -/
theorem tab_take_succ (n : Nat) (f : Nat → Int) (k : Nat) (hk : k < n) : (tab n f).take (k + 1) = (tab n f).take k ++ [f k] := by
  have h := tab_at f hk
  obtain ⟨h1, h2⟩ := List.getElem?_eq_some_iff.1 h
  rw [List.take_succ_eq_append_getElem h1, h2]

theorem nbr_take_succ (zs : List Int) (k : Nat) (x y : Int) (h : zs[k]? = some x) (h' : zs[k + 1]? = some y) : (nbr zs).take (k + 1) = (nbr zs).take k ++ [y - x] := by
  have h := nbr_at zs k x y h h'
  obtain ⟨h1, h2⟩ := List.getElem?_eq_some_iff.1 h
  rw [List.take_succ_eq_append_getElem h1, h2]

end Go.Proofs.YtinhcdppdnmlgaaDoor

/- Contracts of the reference's functions that step and turn polynomials. -/
namespace Go.Proofs.YtinhcdppdnmlgaaDoor
open Go.RowKit
set_option maxRecDepth 4000

theorem sPolyValid_n (m : Nat) (A : Option Addr) (c : Nat) (p : List Int) (w : World) (hm : p.length = m) (h : SI w A p) :
    Calls Tryd.prog 31 #[.slice A m c] w fun e w' => e = .returned (.bool (validP p)) ∧ w = w' := by
  subst hm; exact sPolyValid_any A c p w h

theorem RetO.lit {E : TypeId} {w w' : World} {r : Option (List Int)} (h : r = none) (hb : Below w.heap.size w w') : RetO E w.heap.size w r (.returned (.tuple #[.slice (some ⟨w'.heap.size, 0, none⟩) 0 0, .bool false])) (w'.alloc (.cells #[] E)) := by
  subst h
  exact ⟨_, _, rfl, (OwnI.lit0 E w').low hb.size, hb.alloc hb.size _⟩

end Go.Proofs.YtinhcdppdnmlgaaDoor
