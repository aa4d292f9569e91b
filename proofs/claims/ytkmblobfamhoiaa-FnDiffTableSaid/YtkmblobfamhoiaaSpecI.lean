/- Contracts of the reference's functions on tables: least degree, interpolation. -/
import Derived.Test.YtkmblobfamhoiaaSpecE
import Derived.Test.YtkmblobfamhoiaaPolyG
namespace Go.Proofs.Ytkmblobfamhoiaa
open Go.RowKit
set_option maxRecDepth 4000

theorem sTableValid_any (A : Option Addr) (c : Nat) (p : List Int) (w : World) (h : SI w A p) :
    Calls Try.prog 149 #[.slice A p.length c] w fun e w' => e = .returned (.bool (tabV p)) ∧ w = w' := by
  have hl := h.len
  have Hh := hd h
  clear h
  go_enter Try.func149, Try.ntmps149
  go_wp2
  go_loop [3] (fun i => ∃ k : Nat, k ≤ p.length ∧ i = .int .i64 k ∧ (p.take k).all (fun x => inB x 1000000000) = true) (fun i => p.length - (intOf i).toNat)
  case atStart => exact ⟨0, by omega, rfl, by simp⟩
  case round =>
    obtain ⟨k, hk, rfl, ht⟩ := hrel
    have Ht := hd ht
    clear ht
    by_cases hlt : k < p.length
    · obtain ⟨x, b0, off, hx, rfl, hbw, hc⟩ := Hh.out.at_ hlt
      have Hx := hd hx
      clear hx
      by_cases hin : in2 x (-1000000000) 1000000000 = true
      · go_wp2_with (go_at_call 96; refine (l1In_any x (-1000000000) 1000000000 _).mono ?_; rintro e w' ⟨rfl, rfl⟩)
        go_round
        case rel => exact ⟨k + 1, by omega, by go_num, all_take_succ _ _ _ _ Hx.out Ht.out hin⟩
        case measure => simp [intOf]; omega
      · have hin' : in2 x (-1000000000) 1000000000 = false := by simpa using hin
        clear hin
        have Hf : Hid (tabV p = false) := hd (by
          have := all_false_of (fun x => inB x 1000000000) p k x Hx.out hin'
          simp [tabV, allB, this])
        go_wp2_with (go_at_call 96; refine (l1In_any x (-1000000000) 1000000000 _).mono ?_; rintro e w' ⟨rfl, rfl⟩)
        go_ret
        exact ⟨ret_bool Hf.out.symm, rfl⟩
    · have hke : k = p.length := by omega
      have Hf : Hid (tabV p = in2 p.length 1 60) := hd (by
        have := Ht.out
        rw [hke, List.take_length] at this
        have h2 : allB p 1000000000 = true := this
        rw [Bool.eq_iff_iff]
        simp [tabV, h2, in2]
        omega)
      clear hke
      go_wp2_with (go_at_call 96; refine (l1In_any p.length 1 60 _).mono ?_; rintro e w' ⟨rfl, rfl⟩)
      go_ret
      exact ⟨ret_bool Hf.out.symm, rfl⟩

theorem sTableValid_t (A : Option Addr) (c : Nat) (p : List Int) (t : Bool) (w : World) (h : SI w A p) (ht : tabV p = t) :
    Calls Try.prog 149 #[.slice A p.length c] w fun e w' => e = .returned (.bool t) ∧ w = w' := by
  subst ht; exact sTableValid_any A c p w h
end Go.Proofs.Ytkmblobfamhoiaa
