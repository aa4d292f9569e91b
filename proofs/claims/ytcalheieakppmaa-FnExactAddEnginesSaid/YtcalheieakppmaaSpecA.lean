/- Contracts of the reference's small functions on numbers and lists of numbers. -/
import Derived.Test.YtcalheieakppmaaProg
import Derived.Test.YtcalheieakppmaaPureC
import Derived.Test.YtcalheieakppmaaMem
import Derived.Test.YtcalheieakppmaaPolyC
import Derived.StillTailTactics
namespace Go.Proofs.Ytcalheieakppmaa
open Go.RowKit
set_option maxRecDepth 4000

def in2 (n lo hi : Int) : Bool := decide (lo ≤ n) && decide (n ≤ hi)

theorem l1In_any (n lo hi : Int) (w : World) :
    Calls Try.prog 129 #[.int .i64 n, .int .i64 lo, .int .i64 hi] w fun e w' => e = .returned (.bool (in2 n lo hi)) ∧ w = w' := by
  by_cases h1 : lo ≤ n
  · by_cases h2 : n ≤ hi
    · have Hf : Hid (in2 n lo hi = true) := hd (by simp [in2, h1, h2])
      go_enter Try.func129, Try.ntmps129
      go_wp2
      go_ret
      exact ⟨ret_bool Hf.out.symm, rfl⟩
    · have Hf : Hid (in2 n lo hi = false) := hd (by simp [in2, h2])
      go_enter Try.func129, Try.ntmps129
      go_wp2
      go_ret
      exact ⟨ret_bool Hf.out.symm, rfl⟩
  · have Hf : Hid (in2 n lo hi = false) := hd (by simp [in2, h1])
    go_enter Try.func129, Try.ntmps129
    go_wp2
    go_ret
    exact ⟨ret_bool Hf.out.symm, rfl⟩

theorem sPolyValid_any (A : Option Addr) (c : Nat) (p : List Int) (w : World) (h : SI w A p) :
    Calls Try.prog 92 #[.slice A p.length c] w fun e w' => e = .returned (.bool (validP p)) ∧ w = w' := by
  have hl := h.len
  have Hh := hd h
  clear h
  go_enter Try.func92, Try.ntmps92
  go_wp2
  go_loop [3] (fun i => ∃ k : Nat, k ≤ p.length ∧ i = .int .i64 k ∧ (p.take k).all (fun x => inB x 100000) = true) (fun i => p.length - (intOf i).toNat)
  case atStart => exact ⟨0, by omega, rfl, by simp⟩
  case round =>
    obtain ⟨k, hk, rfl, ht⟩ := hrel
    have Ht := hd ht
    clear ht
    by_cases hlt : k < p.length
    · obtain ⟨x, b0, off, hx, rfl, hbw, hc⟩ := Hh.out.at_ hlt
      have Hx := hd hx
      clear hx
      by_cases hin : in2 x (-100000) 100000 = true
      · go_wp2_with (go_at_call 129; refine (l1In_any x (-100000) 100000 _).mono ?_; rintro e w' ⟨rfl, rfl⟩)
        go_round
        case rel => exact ⟨k + 1, by omega, by go_num, all_take_succ _ _ _ _ Hx.out Ht.out hin⟩
        case measure => simp [intOf]; omega
      · have hin' : in2 x (-100000) 100000 = false := by simpa using hin
        clear hin
        have Hf : Hid (validP p = false) := hd (by
          have := all_false_of (fun x => inB x 100000) p k x Hx.out hin'
          simp [validP, allB, this])
        go_wp2_with (go_at_call 129; refine (l1In_any x (-100000) 100000 _).mono ?_; rintro e w' ⟨rfl, rfl⟩)
        go_ret
        exact ⟨ret_bool Hf.out.symm, rfl⟩
    · have hke : k = p.length := by omega
      have Hf : Hid (validP p = in2 p.length 1 7) := hd (by
        have := Ht.out
        rw [hke, List.take_length] at this
        have h2 : allB p 100000 = true := this
        rw [Bool.eq_iff_iff]
        simp [validP, h2, in2]
        omega)
      clear hke
      go_wp2_with (go_at_call 129; refine (l1In_any p.length 1 7 _).mono ?_; rintro e w' ⟨rfl, rfl⟩)
      go_ret
      exact ⟨ret_bool Hf.out.symm, rfl⟩

theorem l2Choose_any (n : Int) (k : Nat) (w : World) (hn : -300 ≤ n) (hn' : n ≤ 300) (hk : k ≤ 6) :
    Calls Try.prog 163 #[.int .i64 n, .int .i64 k] w fun e w' => e = .returned (.int .i64 (chs n k)) ∧ w' = w := by
  go_enter Try.func163, Try.ntmps163
  go_wp2
  go_loop [5, 6] (fun r i => ∃ j : Nat, j ≤ k ∧ i = .int .i64 j ∧ r = .int .i64 (chs n j)) (fun _ i => k - (intOf i).toNat)
  case atStart => exact ⟨0, by omega, rfl, rfl⟩
  case round =>
    obtain ⟨j, hj, rfl, rfl⟩ := hrel
    by_cases hlt : j < k
    · have hm := chs_mul n hn hn' j (by omega)
      have ht := tdiv_bd _ _ j hm.1 hm.2
      have HS : Hid (chs n (j + 1) = (chs n j * (n - j)).tdiv (j + 1)) := rfl
      obtain ⟨hm1, hm2⟩ := hm
      obtain ⟨ht1, ht2⟩ := ht
      go_wp2
      go_round
      case rel => exact ⟨j + 1, by omega, by go_num, by rw [HS.out]⟩
      case measure => simp [intOf]; omega
    · obtain rfl : j = k := by omega
      go_wp2
      go_ret
      exact ⟨rfl, rfl⟩

set_option maxHeartbeats 400000 in
theorem l2Eval_any (A : Option Addr) (c : Nat) (p : List Int) (n : Int) (w : World) (h : SI w A p) (hp : p.length ≤ 7) (hv : ValOk p n) (hn : -300 ≤ n) (hn' : n ≤ 300) :
    Calls Try.prog 156 #[.slice A p.length c, .int .i64 n] w fun e w' => e = .returned (.int .i64 (val p n)) ∧ Below w.heap.size w w' := by
  have Hh := hd h
  have Hv := hd hv
  clear h hv
  go_enter Try.func156, Try.ntmps156
  go_wp2
  go_loopw [5, 6] (fun s i wr => ∃ k : Nat, k ≤ p.length ∧ i = .int .i64 k ∧ s = .int .i64 (val (p.take k) n) ∧ Below w.heap.size w wr) (fun _ i _ => p.length - (intOf i).toNat)
  case atStart => exact ⟨0, by omega, rfl, by simp [val, valF], Below.refl _ _⟩
  case round =>
    obtain ⟨k, hk, rfl, rfl, hbel⟩ := hrel
    by_cases hlt : k < p.length
    · obtain ⟨x, b0, off, hx, rfl, hbw, hc⟩ := (Hh.out.below hbel).at_ hlt
      obtain ⟨v1, v2, v3, v4⟩ := Hv.out k x hx
      have HS := hd (val_take p k x n hx)
      clear hx
      have hk6 : k ≤ 6 := by omega
      have e1 : IntKind.i64.wrap (x * chs n k) = x * chs n k := IntWalk.i64_in _ (by omega)
      have e2 : IntKind.i64.wrap (val (List.take k p) n + x * chs n k) = val (List.take k p) n + x * chs n k := IntWalk.i64_in _ (by omega)
      go_wp2
      go_quiet ((go_at_call 163; exact Calls.quiet_of_same (l2Choose_any n k _ hn hn' hk6)))
      clear e1 e2
      go_wp2
      go_roundw
      case rel => exact ⟨k + 1, by omega, by go_num, by rw [HS.out], below_drewN hbel _⟩
      case measure => simp [intOf]; omega
    · have hke : k = p.length := by omega
      have Hf : Hid (val (p.take k) n = val p n) := hd (by rw [hke, List.take_length])
      clear hke
      go_wp2
      go_ret
      exact ⟨ret_int Hf.out, hbel⟩

end Go.Proofs.Ytcalheieakppmaa
