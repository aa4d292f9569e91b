/- Contracts of the reference's shift of a polynomial. -/
import Derived.Test.YtkmblobfamhoiaaGrF
import Derived.Test.YtkmblobfamhoiaaGrA
namespace Go.Proofs.Ytkmblobfamhoiaa
open Go.RowKit
set_option maxRecDepth 4000

theorem l2Argument_any (n : Int) (w : World) :
    Calls Try.prog 146 #[.int .i64 n] w fun e w' => e = .returned (.bool (inB n 200)) ∧ w = w' := by
  go_enter Try.func146, Try.ntmps146
  go_wp2_with (go_at_call 96; refine (l1In_any n (-200) 200 _).mono ?_; rintro e w' ⟨rfl, rfl⟩)
  go_ret
  exact ⟨rfl, rfl⟩

theorem shift_bd {p : List Int} (hv : validP p = true) {n : Int} (hn : -200 ≤ n) (hn' : n ≤ 200) :
    ∀ k, k < (tab p.length fun i => val p (n + i)).length → ∀ x ∈ nbrs k (tab p.length fun i => val p (n + i)), -2000000000000000000 ≤ x ∧ x ≤ 2000000000000000000 := by
  obtain ⟨_, h7, hx⟩ := validP_iff.1 hv
  refine nbrs_small (B := 31000000000000000) (by decide) (by rw [tab_length]; exact h7) (by decide) ?_
  intro x hx'
  obtain ⟨i, hi, rfl⟩ := tab_mem hx'
  exact val210 hv (by omega) (by omega)

set_option maxHeartbeats 400000 in
theorem sShiftPoly_any (A : Option Addr) (c : Nat) (p : List Int) (n : Int) (w : World) (h : SI w A p) :
    Calls Try.prog 113 #[.slice A p.length c, .int .i64 n] w fun e w' => RetO 3 w.heap.size w (shiftP p n) e w' := by
  have Hh := hd h
  clear h
  cases hv : validP p
  · have Hf : Hid (shiftP p n = none) := hd (by simp [shiftP, hv])
    go_enter Try.func113, Try.ntmps113
    go_wp2_with (go_at_call 127; refine (sPolyValid_any A c p _ Hh.out).mono ?_; rintro e w' ⟨rfl, rfl⟩)
    go_ret2
    exact RetO.lit Hf.out (Below.refl _ _)
  cases hm : inB n 200
  · have Hf : Hid (shiftP p n = none) := hd (by simp [shiftP, hm])
    go_enter Try.func113, Try.ntmps113
    go_wp2_with (first
      | (go_at_call 127; refine (sPolyValid_any A c p _ Hh.out).mono ?_; rintro e w' ⟨rfl, rfl⟩)
      | (go_at_call 146; refine (l2Argument_any n _).mono ?_; rintro e w' ⟨rfl, rfl⟩))
    go_ret2
    exact RetO.lit Hf.out (Below.refl _ _)
  obtain ⟨hn1, hn2⟩ := inB_iff.1 hm
  obtain ⟨_, h7, hx⟩ := validP_iff.1 hv
  have Hf : Hid (shiftP p n = chk (fd (tab p.length fun i => val p (n + i)))) := hd (by rw [shiftP_eq, hv, hm]; rfl)
  have HB := hd (shift_bd hv hn1 hn2)
  have He : Hid (∀ i : Nat, i < p.length → val p (n + 1 * i) = val p (n + i)) := hd (fun i _ => by rw [Int.one_mul])
  have Hr : Hid (∀ i : Nat, i < p.length → -300 ≤ n + 1 * (i : Int) ∧ n + 1 * (i : Int) ≤ 300) := hd (fun i hi => by omega)
  have Htl := hd (tab_length p.length fun i => val p (n + i))
  clear hx
  go_enter Try.func113, Try.ntmps113
  go_wp2_with (first
    | (go_at_call 127; refine (sPolyValid_any A c p _ Hh.out).mono ?_; rintro e w' ⟨rfl, rfl⟩)
    | (go_at_call 146; refine (l2Argument_any n _).mono ?_; rintro e w' ⟨rfl, rfl⟩)
    | (go_at_call 148; refine (l2Values_f (fun i => val p (n + i)) A c p n 1 p.length _ He.out Hh.out hv (by omega) (by omega) (by omega) Hr.out).mono ?_; rintro e w1 ⟨A1, c1, rfl, own1, bel1⟩; have hs1 := own1.si; have Hs1 := hd hs1; clear hs1)
    | (go_at_call 147; refine (l2Result_any _ _ (tab p.length fun i => val p (n + i)) _ Hs1.out (by rw [Htl.out]; omega) HB.out).mono ?_; rintro e w2 ⟨A2, c2, rfl, own2, bel2⟩))
  go_ret2
  rw [Hf.out]
  exact ⟨A2, c2, rfl, own2.low bel1.size, bel1.trans (bel2.mono bel1.size)⟩

end Go.Proofs.Ytkmblobfamhoiaa
