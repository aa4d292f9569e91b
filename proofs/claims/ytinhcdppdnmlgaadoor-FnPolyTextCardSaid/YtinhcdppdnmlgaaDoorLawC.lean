/- Contracts of the laws' comparison of lists and of their look at a value. -/
import Derived.Test.YtinhcdppdnmlgaaDoorLawA
namespace Go.Proofs.YtinhcdppdnmlgaaDoor
open Go.RowKit
set_option maxRecDepth 4000

set_option maxHeartbeats 400000 in
theorem deInts_quiet (A A' : Option Addr) (c c' : Nat) (xs ys : List Int) (w : World) (h : SI w A xs) (h' : SI w A' ys) :
    Calls Tryd.prog 16 #[.slice A xs.length c, .slice A' ys.length c'] w fun e w' => e = .returned (.bool (decide (xs = ys))) ∧ ∃ m, w' = w.drewN m := by
  have hl1 := h.len
  have hl2 := h'.len
  have Hh := hd h
  have Hh' := hd h'
  clear h h'
  by_cases hlen : xs.length = ys.length
  · have hlen' : ((xs.length : Int) != ys.length) = false := by simp [hlen]
    have Hlen := hd hlen
    clear hlen
    go_enter Tryd.func16, Tryd.ntmps16
    go_wp2
    go_loopw [5] (fun i wr => ∃ k : Nat, k ≤ xs.length ∧ i = .int .i64 k ∧ xs.take k = ys.take k ∧ ∃ m, wr = w.drewN m) (fun i _ => xs.length - (intOf i).toNat)
    case atStart => exact ⟨0, by omega, rfl, rfl, 0, rfl⟩
    case round =>
      obtain ⟨k, hk, rfl, ht, m, rfl⟩ := hrel
      have Ht := hd ht
      clear ht
      by_cases hlt : k < xs.length
      · have hlt' : k < ys.length := by have := Hlen.out; omega
        obtain ⟨x, b, off, hx, rfl, hbw, hc⟩ := Hh.out.at_ hlt
        obtain ⟨y, b', off', hy, rfl, hbw', hc'⟩ := Hh'.out.at_ hlt'
        have Hx := hd hx
        have Hy := hd hy
        clear hx hy
        by_cases hxy : x = y
        · subst hxy
          have hb : (x != x) = false := by simp
          go_wp2
          go_quiet (fail)
          go_wp2
          go_roundw
          case rel => exact ⟨k + 1, by omega, by go_num, take_succ_eq Ht.out Hx.out Hy.out, ⟨_, rfl⟩⟩
          case measure => simp [intOf]; omega
        · have hb : (x != y) = true := by simp [hxy]
          have Hf : Hid (decide (xs = ys) = false) := hd (by
            rw [decide_eq_false_iff_not]
            rintro rfl
            have h1 := Hx.out
            have h2 := Hy.out
            rw [h1] at h2
            injection h2 with h2
            exact hxy h2)
          clear hxy
          go_wp2
          go_quiet (fail)
          go_wp2
          go_ret
          exact ⟨ret_bool Hf.out.symm, ⟨_, World.drewN_drewN _ _ _⟩⟩
      · have Hf : Hid (decide (xs = ys) = true) := hd (by
          rw [decide_eq_true_iff]
          have h1 := Ht.out
          have h2 := Hlen.out
          rwa [List.take_of_length_le (by omega), List.take_of_length_le (by omega)] at h1)
        go_wp2
        go_ret
        exact ⟨ret_bool Hf.out.symm, m, rfl⟩
  · have hlen' : ((xs.length : Int) != ys.length) = true := by simp; omega
    have Hf : Hid (decide (xs = ys) = false) := hd (by
      rw [decide_eq_false_iff_not]
      rintro rfl
      exact hlen rfl)
    clear hlen
    go_enter Tryd.func16, Tryd.ntmps16
    go_wp2
    go_ret
    exact ⟨ret_bool Hf.out.symm, 0, rfl⟩

theorem deInts_any (A A' : Option Addr) (c c' : Nat) (xs ys : List Int) (w : World) (h : SI w A xs) (h' : SI w A' ys) :
    Calls Tryd.prog 16 #[.slice A xs.length c, .slice A' ys.length c'] w fun e w' => e = .returned (.bool (decide (xs = ys))) ∧ Below w.heap.size w w' :=
  (deInts_quiet A A' c c' xs ys w h h').mono fun e w' ⟨he, m, hw⟩ => ⟨he, by subst hw; exact below_drewN (Below.refl _ _) m⟩

theorem deInts_same (n : Nat) (A A' : Option Addr) (c c' : Nat) (xs : List Int) (w : World) (k : Nat) (hn : xs.length = n) (h : SI w A xs) (h' : SI w A' xs) :
    Calls Tryd.prog 16 #[.slice A n c, .slice A' n c'] (w.drewN k) fun e w' => e = .returned (.bool true) ∧ ∃ m, w' = (w.drewN k).drewN m := by
  subst hn
  exact (deInts_quiet A A' c c' xs xs (w.drewN k) h h').mono fun e w' ⟨he, hw⟩ => ⟨by rw [he]; simp, hw⟩

end Go.Proofs.YtinhcdppdnmlgaaDoor
