/- Contracts of the reference's functions that step and turn polynomials. -/
import Derived.Test.YtcalheieakppmaaSpecB
import Derived.Test.YtcalheieakppmaaPolyD
namespace Go.Proofs.Ytcalheieakppmaa
open Go.RowKit
set_option maxRecDepth 4000

theorem sPolyValid_n (m : Nat) (A : Option Addr) (c : Nat) (p : List Int) (w : World) (hm : p.length = m) (h : SI w A p) :
    Calls Try.prog 92 #[.slice A m c] w fun e w' => e = .returned (.bool (validP p)) ∧ w = w' := by
  subst hm; exact sPolyValid_any A c p w h

theorem l2Diffs_n (m : Nat) (A : Option Addr) (c : Nat) (zs : List Int) (w : World) (hm : zs.length = m) (h : SI w A zs) (hl : zs.length ≤ 1000) (hB : ∀ k, k < zs.length → ∀ x ∈ nbrs k zs, -2000000000000000000 ≤ x ∧ x ≤ 2000000000000000000) :
    Calls Try.prog 158 #[.slice A m c] w fun e w' => RetI 3 w.heap.size w (fd zs) e w' := by
  subst hm; exact l2Diffs_any A c zs w h hl hB

theorem RetO.lit {E : TypeId} {w w' : World} {r : Option (List Int)} (h : r = none) (hb : Below w.heap.size w w') : RetO E w.heap.size w r (.returned (.tuple #[.slice (some ⟨w'.heap.size, 0, none⟩) 0 0, .bool false])) (w'.alloc (.cells #[] E)) := by
  subst h
  exact ⟨_, _, rfl, (OwnI.lit0 E w').low hb.size, hb.alloc hb.size _⟩

theorem l2Result_any (A : Option Addr) (c : Nat) (zs : List Int) (w : World) (h : SI w A zs) (hl : zs.length ≤ 1000) (hB : ∀ k, k < zs.length → ∀ x ∈ nbrs k zs, -2000000000000000000 ≤ x ∧ x ≤ 2000000000000000000) :
    Calls Try.prog 145 #[.slice A zs.length c] w fun e w' => RetO 3 w.heap.size w (chk (fd zs)) e w' := by
  have Hh := hd h
  have HB := hd hB
  clear h hB
  cases hv : validP (fd zs)
  · have Hf : Hid (chk (fd zs) = none) := hd (by simp [chk, hv])
    go_enter Try.func145, Try.ntmps145
    go_wp2_with (first
      | (go_at_call 158; refine (l2Diffs_any A c zs _ Hh.out hl HB.out).mono ?_; rintro e w1 ⟨A1, c1, rfl, own1, bel1⟩; have hs1 := own1.si; have Hs1 := hd hs1; clear hs1)
      | (go_at_call 92; refine (sPolyValid_any _ _ (fd zs) _ Hs1.out).mono ?_; rintro e w' ⟨rfl, rfl⟩))
    go_ret2
    exact RetO.lit Hf.out bel1
  · have Hf : Hid (chk (fd zs) = some (fd zs)) := hd (by simp [chk, hv])
    go_enter Try.func145, Try.ntmps145
    go_wp2_with (first
      | (go_at_call 158; refine (l2Diffs_any A c zs _ Hh.out hl HB.out).mono ?_; rintro e w1 ⟨A1, c1, rfl, own1, bel1⟩; have hs1 := own1.si; have Hs1 := hd hs1; clear hs1)
      | (go_at_call 92; refine (sPolyValid_any _ _ (fd zs) _ Hs1.out).mono ?_; rintro e w' ⟨rfl, rfl⟩))
    go_ret2
    exact RetO.some_ Hf.out own1 rfl bel1

theorem l2Result_n (m : Nat) (A : Option Addr) (c : Nat) (zs : List Int) (w : World) (hm : zs.length = m) (h : SI w A zs) (hl : zs.length ≤ 1000) (hB : ∀ k, k < zs.length → ∀ x ∈ nbrs k zs, -2000000000000000000 ≤ x ∧ x ≤ 2000000000000000000) :
    Calls Try.prog 145 #[.slice A m c] w fun e w' => RetO 3 w.heap.size w (chk (fd zs)) e w' := by
  subst hm; exact l2Result_any A c zs w h hl hB

end Go.Proofs.Ytcalheieakppmaa
