/- Contracts of the reference's functions that step and turn polynomials. -/
import Derived.Test.YthoodhdcmckkpaaSpecB
import Derived.Test.YthoodhdcmckkpaaPolyD
namespace Go.Proofs.Ythoodhdcmckkpaa
open Go.RowKit

theorem sPolyValid_n (m : Nat) (A : Option Addr) (c : Nat) (p : List Int) (w : World) (hm : p.length = m) (h : SI w A p) :
    Calls Try.prog 76 #[.slice A m c] w fun e w' => e = .returned (.bool (validP p)) ∧ w = w' := by
  subst hm; exact sPolyValid_any A c p w h

theorem l2Diffs_n (m : Nat) (A : Option Addr) (c : Nat) (zs : List Int) (w : World) (hm : zs.length = m) (h : SI w A zs) (hl : zs.length ≤ 1000) (hB : ∀ k, k < zs.length → ∀ x ∈ nbrs k zs, -2000000000000000000 ≤ x ∧ x ≤ 2000000000000000000) :
    Calls Try.prog 102 #[.slice A m c] w fun e w' => RetI 3 w.heap.size w (fd zs) e w' := by
  subst hm; exact l2Diffs_any A c zs w h hl hB

theorem RetO.lit {E : TypeId} {w w' : World} {r : Option (List Int)} (h : r = none) (hb : Below w.heap.size w w') : RetO E w.heap.size w r (.returned (.tuple #[.slice (some ⟨w'.heap.size, 0, none⟩) 0 0, .bool false])) (w'.alloc (.cells #[] E)) := by
  subst h
  exact ⟨_, _, rfl, (OwnI.lit0 E w').low hb.size, hb.alloc hb.size _⟩

theorem l2Result_any (A : Option Addr) (c : Nat) (zs : List Int) (w : World) (h : SI w A zs) (hl : zs.length ≤ 1000) (hB : ∀ k, k < zs.length → ∀ x ∈ nbrs k zs, -2000000000000000000 ≤ x ∧ x ≤ 2000000000000000000) :
    Calls Try.prog 81 #[.slice A zs.length c] w fun e w' => RetO 3 w.heap.size w (chk (fd zs)) e w' := by
  have Hh := hd h
  have HB := hd hB
  clear h hB
  cases hv : validP (fd zs)
  · have Hf : Hid (chk (fd zs) = none) := hd (by simp [chk, hv])
    go_enter Try.func81, Try.ntmps81
    go_wp2_with (first
      | (go_at_call 102; refine (l2Diffs_any A c zs _ Hh.out hl HB.out).mono ?_; rintro e w1 ⟨A1, c1, rfl, own1, bel1⟩; have hs1 := own1.si; have Hs1 := hd hs1; clear hs1)
      | (go_at_call 76; refine (sPolyValid_any _ _ (fd zs) _ Hs1.out).mono ?_; rintro e w' ⟨rfl, rfl⟩))
    go_ret2
    exact RetO.lit Hf.out bel1
  · have Hf : Hid (chk (fd zs) = some (fd zs)) := hd (by simp [chk, hv])
    go_enter Try.func81, Try.ntmps81
    go_wp2_with (first
      | (go_at_call 102; refine (l2Diffs_any A c zs _ Hh.out hl HB.out).mono ?_; rintro e w1 ⟨A1, c1, rfl, own1, bel1⟩; have hs1 := own1.si; have Hs1 := hd hs1; clear hs1)
      | (go_at_call 76; refine (sPolyValid_any _ _ (fd zs) _ Hs1.out).mono ?_; rintro e w' ⟨rfl, rfl⟩))
    go_ret2
    exact RetO.some_ Hf.out own1 rfl bel1

theorem l2Result_n (m : Nat) (A : Option Addr) (c : Nat) (zs : List Int) (w : World) (hm : zs.length = m) (h : SI w A zs) (hl : zs.length ≤ 1000) (hB : ∀ k, k < zs.length → ∀ x ∈ nbrs k zs, -2000000000000000000 ≤ x ∧ x ≤ 2000000000000000000) :
    Calls Try.prog 81 #[.slice A m c] w fun e w' => RetO 3 w.heap.size w (chk (fd zs)) e w' := by
  subst hm; exact l2Result_any A c zs w h hl hB

set_option maxHeartbeats 400000 in
theorem sStepPoly_any (A : Option Addr) (c : Nat) (p : List Int) (m : Int) (w : World) (h : SI w A p) :
    Calls Try.prog 29 #[.slice A p.length c, .int .i64 m] w fun e w' => RetO 3 w.heap.size w (stepP p m) e w' := by
  have Hh := hd h
  clear h
  cases hv : validP p
  · have Hf : Hid (stepP p m = none) := hd (by simp [stepP, hv])
    go_enter Try.func29, Try.ntmps29
    go_wp2_with (go_at_call 76; refine (sPolyValid_any A c p _ Hh.out).mono ?_; rintro e w' ⟨rfl, rfl⟩)
    go_ret2
    exact RetO.lit Hf.out (Below.refl _ _)
  cases hm : in2 m 1 10
  · have Hf : Hid (stepP p m = none) := hd (by
      have : (decide (1 ≤ m) && decide (m ≤ 10)) = false := hm
      rw [stepP, this]; simp)
    go_enter Try.func29, Try.ntmps29
    go_wp2_with (first
      | (go_at_call 76; refine (sPolyValid_any A c p _ Hh.out).mono ?_; rintro e w' ⟨rfl, rfl⟩)
      | (go_at_call 80; refine (l1In_any m 1 10 _).mono ?_; rintro e w' ⟨rfl, rfl⟩))
    go_ret2
    exact RetO.lit Hf.out (Below.refl _ _)
  obtain ⟨hm1, hm2⟩ : 1 ≤ m ∧ m ≤ 10 := by simpa [in2] using hm
  obtain ⟨_, h7, hx⟩ := validP_iff.1 hv
  have hmi : ∀ i : Nat, i < p.length → -60 ≤ m * i ∧ m * i ≤ 60 := fun i hi => by
    have := mul_bd m i 10 6 (by decide) (by omega) (by omega) (by omega) (by omega)
    have := Int.mul_nonneg (by omega : 0 ≤ m) (by omega : (0 : Int) ≤ i)
    omega
  have Hf : Hid (stepP p m = chk (fd (tab p.length fun i => val p (m * i)))) := hd (by simp [stepP, hv, hm1, hm2])
  have HB := hd (step_bd hv (fun i => m * i) hmi)
  have He : Hid (∀ i : Nat, i < p.length → val p (0 + m * i) = val p (m * i)) := hd (fun i _ => by rw [Int.zero_add])
  have Hr : Hid (∀ i : Nat, i < p.length → -300 ≤ 0 + m * i ∧ 0 + m * i ≤ 300) := hd (fun i hi => by have := hmi i hi; omega)
  have Htl := hd (tab_length p.length fun i => val p (m * i))
  clear hmi hx
  go_enter Try.func29, Try.ntmps29
  go_wp2_with (first
    | (go_at_call 76; refine (sPolyValid_any A c p _ Hh.out).mono ?_; rintro e w' ⟨rfl, rfl⟩)
    | (go_at_call 80; refine (l1In_any m 1 10 _).mono ?_; rintro e w' ⟨rfl, rfl⟩)
    | (go_at_call 82; refine (l2Values_f (fun i => val p (m * i)) A c p 0 m p.length _ He.out Hh.out hv (by omega) (by omega) (by omega) Hr.out).mono ?_; rintro e w1 ⟨A1, c1, rfl, own1, bel1⟩; have hs1 := own1.si; have Hs1 := hd hs1; clear hs1)
    | (go_at_call 81; refine (l2Result_any _ _ (tab p.length fun i => val p (m * i)) _ Hs1.out (by rw [Htl.out]; omega) HB.out).mono ?_; rintro e w2 ⟨A2, c2, rfl, own2, bel2⟩))
  go_ret2
  rw [Hf.out]
  exact ⟨A2, c2, rfl, own2.low bel1.size, bel1.trans (bel2.mono bel1.size)⟩

set_option maxHeartbeats 400000 in
theorem sTurnPoly_any (A : Option Addr) (c : Nat) (p : List Int) (w : World) (h : SI w A p) :
    Calls Try.prog 35 #[.slice A p.length c] w fun e w' => RetO 3 w.heap.size w (turnP p) e w' := by
  have Hh := hd h
  clear h
  cases hv : validP p
  · have Hf : Hid (turnP p = none) := hd (by simp [turnP, hv])
    go_enter Try.func35, Try.ntmps35
    go_wp2_with (go_at_call 76; refine (sPolyValid_any A c p _ Hh.out).mono ?_; rintro e w' ⟨rfl, rfl⟩)
    go_ret2
    exact RetO.lit Hf.out (Below.refl _ _)
  obtain ⟨_, h7, hx⟩ := validP_iff.1 hv
  have Hf : Hid (turnP p = chk (fd (tab p.length fun i => val p (-i)))) := hd (by simp [turnP, hv])
  have HB := hd (step_bd hv (fun i => -i) (fun i hi => by omega))
  have He : Hid (∀ i : Nat, i < p.length → val p (0 + -1 * i) = val p (-i)) := hd (fun i _ => by rw [show (0 : Int) + -1 * i = -i by omega])
  have Hr : Hid (∀ i : Nat, i < p.length → -300 ≤ 0 + -1 * (i : Int) ∧ 0 + -1 * (i : Int) ≤ 300) := hd (fun i hi => by omega)
  have Htl := hd (tab_length p.length fun i => val p (-i))
  clear hx
  go_enter Try.func35, Try.ntmps35
  go_wp2_with (first
    | (go_at_call 76; refine (sPolyValid_any A c p _ Hh.out).mono ?_; rintro e w' ⟨rfl, rfl⟩)
    | (go_at_call 82; refine (l2Values_f (fun i => val p (-i)) A c p 0 (-1) p.length _ He.out Hh.out hv (by omega) (by omega) (by omega) Hr.out).mono ?_; rintro e w1 ⟨A1, c1, rfl, own1, bel1⟩; have hs1 := own1.si; have Hs1 := hd hs1; clear hs1)
    | (go_at_call 81; refine (l2Result_any _ _ (tab p.length fun i => val p (-i)) _ Hs1.out (by rw [Htl.out]; omega) HB.out).mono ?_; rintro e w2 ⟨A2, c2, rfl, own2, bel2⟩))
  go_ret2
  rw [Hf.out]
  exact ⟨A2, c2, rfl, own2.low bel1.size, bel1.trans (bel2.mono bel1.size)⟩

end Go.Proofs.Ythoodhdcmckkpaa
