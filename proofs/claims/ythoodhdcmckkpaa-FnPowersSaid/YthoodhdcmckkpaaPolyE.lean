/- Contracts of the program's functions that trim polynomials. -/
import Derived.Test.YthoodhdcmckkpaaPolyD
import Derived.Test.YthoodhdcmckkpaaPureH
namespace Go.Proofs.Ythoodhdcmckkpaa
open Go.RowKit

theorem SI.take {w : World} {A : Option Addr} {zs : List Int} (h : SI w A zs) (k : Nat) : SI w A (zs.take k) := by
  refine ⟨by have := h.1; simp at this ⊢; omega, fun j v hj => ?_⟩
  rw [List.map_take] at hj
  by_cases hk : j < k
  · rw [List.getElem?_take_of_lt hk] at hj; exact h.2 j v hj
  · rw [List.getElem?_take_eq_none (by omega)] at hj; cases hj

set_option maxHeartbeats 400000 in
theorem TrimPoly_any (A : Option Addr) (c : Nat) (p : List Int) (w : World) (h : SI w A p) (hcap : p.length ≤ c) :
    Calls Try.prog 38 #[.slice A p.length c] w fun e w' => RetI 3 w.heap.size w (trimP p) e w' := by
  have Hh := hd h
  have hl := h.len
  cases hv : validP p
  · clear h
    have Hf : Hid (trimP p = []) := hd (by simp [trimP, hv])
    go_enter Try.func38, Try.ntmps38
    go_wp2_with (go_at_call 28; refine (PolyValid_any A c p _ Hh.out).mono ?_; rintro e w' ⟨rfl, rfl⟩)
    go_ret
    exact RetI.empty Hf.out (Below.refl _ _)
  · obtain ⟨h1, h7, hx⟩ := validP_iff.1 hv
    have Hf : Hid (trimP p = p.take (trimN p p.length)) := hd (by simp [trimP, hv])
    clear h hx
    go_enter Try.func38, Try.ntmps38
    go_wp2_with (go_at_call 28; refine (PolyValid_any _ c p _ Hh.out).mono ?_; rintro e w' ⟨rfl, rfl⟩)
    go_loop [3] (fun i => ∃ m : Nat, m < p.length ∧ i = .int .i64 ((m + 1 : Nat) : Int) ∧ trimN p (m + 1) = trimN p p.length) (fun i => (intOf i).toNat)
    case atStart => exact ⟨p.length - 1, by omega, by rw [Nat.sub_add_cancel h1], by rw [Nat.sub_add_cancel h1]⟩
    case round =>
      obtain ⟨m, hm, rfl, ht⟩ := hrel
      have Ht := hd ht
      clear ht
      have e1 : IntKind.i64.wrap (((m + 1 : Nat) : Int) - 1) = (m : Int) := by rw [show ((m + 1 : Nat) : Int) - 1 = (m : Int) by omega]; exact IntWalk.i64_in _ (by omega)
      by_cases hm0 : 0 < m
      · obtain ⟨x, b, off, hx, rfl, hb, hc⟩ := Hh.out.at_ hm
        by_cases hx0 : x = 0
        · subst hx0
          have Hg := hd ((trimN_go hm0 hx).symm.trans Ht.out)
          clear hx
          obtain ⟨l, rfl⟩ : ∃ l, m = l + 1 := ⟨m - 1, by omega⟩
          go_wp2
          go_round
          case rel => exact ⟨l, by omega, by go_num, Hg.out⟩
          case measure => simp [intOf]; omega
        · have Hg : Hid (trimP p = p.take (m + 1)) := hd (by rw [Hf.out, ← Ht.out, trimN_stop (.inr (by rw [hx]; simpa using hx0))])
          have hx0' : (x == 0) = false := by simpa using hx0
          have Htl : Hid ((p.take (m + 1)).length = m + 1) := hd (by simp; omega)
          have Hpos : Hid (0 < (p.take (m + 1)).length) := hd (by rw [Htl.out]; omega)
          have Hs := hd (Hh.out.take (m + 1))
          clear hx hx0
          go_wp2_with (go_at_call 77; refine (Clone_n _ _ _ (p.take (m + 1)) _ Htl.out Hs.out Hpos.out).mono ?_; rintro e w3 ⟨A3, c3, rfl, own3, bel3⟩)
          go_ret
          rw [Hg.out]
          exact RetI.own own3 (by simp) bel3
      · obtain rfl : m = 0 := by omega
        have Hg : Hid (trimP p = p.take 1) := hd (by rw [Hf.out, ← Ht.out, trimN_stop (.inl rfl)])
        have Htl : Hid ((p.take 1).length = 1) := hd (by simp; omega)
        have Hpos : Hid (0 < (p.take 1).length) := hd (by rw [Htl.out]; omega)
        have Hs := hd (Hh.out.take 1)
        obtain ⟨b, off, rfl, hb⟩ := Hh.out.nonempty h1
        go_wp2_with (go_at_call 77; refine (Clone_n _ _ _ (p.take 1) _ Htl.out Hs.out Hpos.out).mono ?_; rintro e w3 ⟨A3, c3, rfl, own3, bel3⟩)
        go_ret
        rw [Hg.out]
        exact RetI.own own3 Htl.out.symm bel3

set_option maxHeartbeats 400000 in
theorem allZero_any (A : Option Addr) (c : Nat) (p : List Int) (w : World) (h : SI w A p) :
    Calls Try.prog 85 #[.slice A p.length c] w fun e w' => e = .returned (.bool (allB p 0)) ∧ w = w' := by
  have Hh := hd h
  clear h
  go_enter Try.func85, Try.ntmps85
  go_wp2_with (go_at_call 79; refine (allWithin_any A c p 0 _ Hh.out (by decide) (by decide)).mono ?_; rintro e w' ⟨rfl, rfl⟩)
  go_ret
  exact ⟨rfl, rfl⟩

theorem RetN.of {w w' : World} {x y : Int} (h : x = y) (hb : Below w.heap.size w w') : Ending.returned (.int .i64 x) = .returned (.int .i64 y) ∧ Below w.heap.size w w' := ⟨by rw [h], hb⟩

set_option maxHeartbeats 400000 in
theorem DegreeOf_any (A : Option Addr) (c : Nat) (p : List Int) (w : World) (h : SI w A p) (hcap : p.length ≤ c) :
    Calls Try.prog 39 #[.slice A p.length c] w fun e w' => e = .returned (.int .i64 (degP p)) ∧ Below w.heap.size w w' := by
  have Hh := hd h
  have hl := h.len
  have Hcap := hd hcap
  clear h hcap
  cases hv : validP p
  · have Hf : Hid (degP p = -2) := hd (by simp [degP, hv])
    go_enter Try.func39, Try.ntmps39
    go_wp2_with (go_at_call 28; refine (PolyValid_any A c p _ Hh.out).mono ?_; rintro e w' ⟨rfl, rfl⟩)
    go_ret
    exact RetN.of Hf.out.symm (Below.refl _ _)
  · cases hz : allB p 0
    · have Hf : Hid (degP p = (trimP p).length - 1) := hd (by rw [trimP_len hv]; simp [degP, hv, hz])
      have h1 : 0 < (trimP p).length := (validP_iff.1 (trimP_valid hv)).1
      have h7 : (trimP p).length ≤ 7 := (validP_iff.1 (trimP_valid hv)).2.1
      go_enter Try.func39, Try.ntmps39
      go_wp2_with (first
        | (go_at_call 28; refine (PolyValid_any A c p _ Hh.out).mono ?_; rintro e w' ⟨rfl, rfl⟩)
        | (go_at_call 85; refine (allZero_any A c p _ Hh.out).mono ?_; rintro e w' ⟨rfl, rfl⟩)
        | (go_at_call 38; refine (TrimPoly_any A c p _ Hh.out Hcap.out).mono ?_; rintro e w3 ⟨A3, c3, rfl, own3, bel3⟩))
      go_ret
      exact RetN.of Hf.out.symm bel3
    · have Hf : Hid (degP p = -1) := hd (by simp [degP, hv, hz])
      go_enter Try.func39, Try.ntmps39
      go_wp2_with (first
        | (go_at_call 28; refine (PolyValid_any A c p _ Hh.out).mono ?_; rintro e w' ⟨rfl, rfl⟩)
        | (go_at_call 85; refine (allZero_any A c p _ Hh.out).mono ?_; rintro e w' ⟨rfl, rfl⟩))
      go_ret
      exact RetN.of Hf.out.symm (Below.refl _ _)

end Go.Proofs.Ythoodhdcmckkpaa
