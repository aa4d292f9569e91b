/- Contracts of the program's functions on tables: least degree, interpolation. -/
import Derived.Test.YtkmblobfamhoiaaPolyE
import Derived.Test.YtkmblobfamhoiaaPureL
namespace Go.Proofs.Ytkmblobfamhoiaa
open Go.RowKit
set_option maxRecDepth 4000

theorem TableValid_any (A : Option Addr) (c : Nat) (p : List Int) (w : World) (h : SI w A p) :
    Calls Try.prog 67 #[.slice A p.length c] w fun e w' => e = .returned (.bool (tabV p)) ∧ w = w' := by
  have hl := h.len
  have Hh := hd h
  clear h
  by_cases h1 : 1 ≤ p.length
  · by_cases h2 : p.length ≤ 60
    · have Hf : Hid (tabV p = allB p 1000000000) := hd (by simp [tabV, h1, h2])
      go_enter Try.func67, Try.ntmps67
      go_wp2_with (go_at_call 130; refine (allWithin_any A c p 1000000000 _ Hh.out (by decide) (by decide)).mono ?_; rintro e w' ⟨rfl, rfl⟩)
      go_ret
      exact ⟨ret_bool Hf.out.symm, rfl⟩
    · have Hf : Hid (tabV p = false) := hd (by simp [tabV, h2])
      go_enter Try.func67, Try.ntmps67
      go_wp2
      go_ret
      exact ⟨ret_bool Hf.out.symm, rfl⟩
  · have Hf : Hid (tabV p = false) := hd (by simp [tabV, h1])
    go_enter Try.func67, Try.ntmps67
    go_wp2
    go_ret
    exact ⟨ret_bool Hf.out.symm, rfl⟩

theorem TableValid_t (A : Option Addr) (c : Nat) (p : List Int) (t : Bool) (w : World) (h : SI w A p) (ht : tabV p = t) :
    Calls Try.prog 67 #[.slice A p.length c] w fun e w' => e = .returned (.bool t) ∧ w = w' := by
  subst ht; exact TableValid_any A c p w h

theorem nbrs_tbd {zs : List Int} (ht : tabV zs = true) (k : Nat) (hk : k ≤ 8) : ∀ x ∈ nbrs k zs, -2000000000000000000 ≤ x ∧ x ≤ 2000000000000000000 := by
  intro x hx
  have h := nbrs_bd zs 1000000000 (tabV_iff.1 ht).2.2 k x hx
  have hp : (2 : Int) ^ k ≤ 256 := by
    have h2 := Nat.pow_le_pow_right (show 0 < 2 by decide) hk
    have h3 : ((2 ^ k : Nat) : Int) = (2 : Int) ^ k := by push_cast; rfl
    rw [← h3]
    have h4 : (2 : Nat) ^ 8 = 256 := rfl
    omega
  omega

/-- The number is returned; nothing that was there before has changed. -/
def RetZ (w : World) (x : Int) (e : Ending) (w' : World) : Prop := e = .returned (.int .i64 x) ∧ Below w.heap.size w w'

theorem inter_bd {zs : List Int} (ht : tabV zs = true) (m : Nat) (hm : m ≤ 7) : ∀ k, k < (zs.take m).length → ∀ x ∈ nbrs k (zs.take m), -2000000000000000000 ≤ x ∧ x ≤ 2000000000000000000 :=
  nbrs_small (B := 1000000000) (by decide) (by rw [List.length_take]; omega) (by decide) fun x hx => (tabV_iff.1 ht).2.2 x (List.mem_of_mem_take hx)

theorem zc_len {zs : List Int} (ht : tabV zs = true) (h7 : zc 8 zs ≤ 7) : max (zc 8 zs) 1 ≤ zs.length := by
  have h1 := (tabV_iff.1 ht).1
  rcases Nat.eq_zero_or_pos (zc 8 zs) with h0 | h0
  · omega
  · obtain ⟨m, hm⟩ : ∃ m, zc 8 zs = m + 1 := ⟨zc 8 zs - 1, by omega⟩
    obtain ⟨_, _, _, hl⟩ := zc_lead hm (by omega)
    omega

end Go.Proofs.Ytkmblobfamhoiaa
