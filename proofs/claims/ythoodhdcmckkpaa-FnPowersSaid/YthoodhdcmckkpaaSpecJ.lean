/- Contracts: the reference's polynomials from coefficients of powers. -/
import Derived.Test.YthoodhdcmckkpaaSpecG
import Derived.Test.YthoodhdcmckkpaaPureN
namespace Go.Proofs.Ythoodhdcmckkpaa
open Go.RowKit

theorem pw_drop_bd {c : List Int} (hc : validP c = true) {n : Int} (h1 : -7 ≤ n) (h2 : n ≤ 7) (i : Nat) : -13725700000 ≤ pw (c.drop i) n ∧ pw (c.drop i) n ≤ 13725700000 := by
  obtain ⟨_, h7, hx⟩ := validP_iff.1 hc
  have := pw_bd7 100000 (by decide) n h1 h2 (c.drop i) (by rw [List.length_drop]; omega) fun x hm => hx x (List.mem_of_mem_drop hm)
  omega

set_option maxHeartbeats 800000 in
theorem l2Power_any (A : Option Addr) (cc : Nat) (c : List Int) (n : Int) (w : World) (h : SI w A c) (hc : validP c = true) (h1 : -7 ≤ n) (h2 : n ≤ 7) :
    Calls Try.prog 94 #[.slice A c.length cc, .int .i64 n] w fun e w' => e = .returned (.int .i64 (pw c n)) ∧ Below w.heap.size w w' := by
  have Hh := hd h
  have Hc := hd hc
  have hl7 := (validP_iff.1 hc).2.1
  have Hx := hd (validP_iff.1 hc).2.2
  clear h hc
  go_enter Try.func94, Try.ntmps94
  go_wp2
  go_loopw [5, 6] (fun o i wr => ∃ k : Nat, k ≤ c.length ∧ i = .int .i64 ((k : Int) - 1) ∧ o = .int .i64 (pw (c.drop k) n) ∧ Below w.heap.size w wr) (fun _ i _ => (intOf i + 1).toNat)
  case atStart => exact ⟨c.length, by omega, rfl, by simp [pw], Below.refl _ _⟩
  case round =>
    obtain ⟨k, hk, rfl, rfl, hbel⟩ := hrel
    obtain ⟨hb1, hb2⟩ := pw_drop_bd Hc.out h1 h2 k
    obtain ⟨y, Hy⟩ : ∃ y, Hid (pw (c.drop k) n = y) := ⟨_, hd rfl⟩
    rw [Hy.out] at hb1 hb2
    rw [Hy.out]
    by_cases hk0 : 0 < k
    · obtain ⟨l, rfl⟩ : ∃ l, k = l + 1 := ⟨k - 1, by omega⟩
      have ei : ((l + 1 : Nat) : Int) - 1 = (l : Int) := by omega
      rw [ei]
      obtain ⟨x, b, off, hx, rfl, hb, hcc⟩ := (Hh.out.below hbel).at_ (k := l) (by omega)
      obtain ⟨hx1, hx2⟩ := Hx.out x (List.mem_of_getElem? hx)
      have Hn := hd (pw_drop hx n)
      rw [Hy.out] at Hn
      have hm := mul_bd y n 13725700000 7 (by decide) hb1 hb2 h1 h2
      obtain ⟨hm1, hm2⟩ := hm
      have e1 : IntKind.i64.wrap (y * n) = y * n := IntWalk.i64_in _ (by omega)
      have e2 : IntKind.i64.wrap (y * n + x) = y * n + x := IntWalk.i64_in _ (by omega)
      clear hx ei
      go_wp2
      go_roundw
      case rel => exact ⟨l, by omega, by go_num, by rw [Hn.out], hbel⟩
      case measure => simp [intOf] <;> omega
    · obtain rfl : k = 0 := by omega
      have Hf : Hid (y = pw c n) := hd (by rw [← Hy.out, List.drop_zero])
      go_wp2
      go_ret
      exact ⟨ret_int Hf.out, hbel⟩

theorem from_bd {c : List Int} (hc : validP c = true) : ∀ k, k < (tab c.length fun n => pw c n).length → ∀ x ∈ nbrs k (tab c.length fun n => pw c n), -2000000000000000000 ≤ x ∧ x ≤ 2000000000000000000 := by
  obtain ⟨_, h7, _⟩ := validP_iff.1 hc
  refine nbrs_small (B := 13725700000) (by decide) (by rw [tab_length]; exact h7) (by decide) ?_
  intro x hx
  obtain ⟨i, hi, rfl⟩ := tab_mem hx
  exact pw_drop_bd hc (n := (i : Int)) (by omega) (by omega) 0

set_option maxHeartbeats 800000 in
theorem sFromPowers_any (A : Option Addr) (cc : Nat) (c : List Int) (w : World) (h : SI w A c) :
    Calls Try.prog 59 #[.slice A c.length cc] w fun e w' => RetO 3 w.heap.size w (fromP c) e w' := by
  obtain ⟨i0, hi, hz0, hz1, hz2⟩ := info_parts infoI
  have Hh := hd h
  clear h
  cases hv : validP c
  · have Hf : Hid (fromP c = none) := hd (by simp [fromP, hv])
    go_enter Try.func59, Try.ntmps59
    go_wp2_with (go_at_call 76; refine (sPolyValid_any A cc c _ Hh.out).mono ?_; rintro e w' ⟨rfl, rfl⟩)
    go_ret2
    exact RetO.lit Hf.out (Below.refl _ _)
  have hl7 := (validP_iff.1 hv).2.1
  have Hf : Hid (fromP c = chk (fd (tab c.length fun n => pw c n))) := hd (by simp [fromP, hv])
  have HB := hd (from_bd hv)
  have Htl := hd (tab_length c.length fun n => pw c n)
  have Hbel0 := hd ((Below.refl w.heap.size w).alloc (Nat.le_refl _) (.cells #[] 3))
  have Hown0 := hd (OwnI.lit0 3 w)
  go_enter Try.func59, Try.ntmps59
  go_wp2_with (go_at_call 76; refine (sPolyValid_any A cc c _ Hh.out).mono ?_; rintro e w' ⟨rfl, rfl⟩)
  go_loopw [4, 5] (fun r i wr => ∃ (k : Nat) (A' : Option Addr) (c' : Nat), k ≤ c.length ∧ i = .int .i64 k ∧ r = .slice A' k c' ∧ OwnI 3 w.heap.size wr A' c' ((tab c.length fun n => pw c n).take k) ∧ Below w.heap.size w wr)
    (fun _ i _ => c.length - (intOf i).toNat)
  case atStart => exact ⟨0, _, _, by omega, rfl, rfl, Hown0.out, Hbel0.out⟩
  case round =>
    obtain ⟨k, A', c', hk, rfl, rfl, hown, hbel⟩ := hrel
    have Hown := hd hown
    clear hown
    by_cases hlt : k < c.length
    · have Hs := hd (Hh.out.below hbel)
      have Htk : Hid (((tab c.length fun n => pw c n).take k).length = k) := hd (by rw [List.length_take, tab_length]; omega)
      have HS := hd (tab_take_succ c.length (fun n => pw c n) k hlt)
      go_wp2_with (first
        | (go_at_call 94; refine (l2Power_any A cc c k _ Hs.out hv (by omega) (by omega)).mono ?_; rintro e w1 ⟨rfl, hb1⟩; have Hb := hd (hbel.trans (hb1.mono hbel.size)); have Ho := hd (Hown.out.below hb1); have hsz : w.heap.size ≤ w1.heap.size := Hb.out.size; clear hb1)
        | (at_builtin; refine wpList_app1 rfl _ _ 23 3 rfl w.heap.size i0 Try.underlying23 hi hz0 hz1 hz2 k A' c' _ w1.heap.size (pw c k) rfl rfl Htk.out (new_cell _ _ _) (Ho.out.alloc _) (by omega) (by simp; omega) ?_; intro A2 c2 w2 hown2 hbel2 _))
      have Hown2 := hd hown2
      have Hbel2 := hd ((Hb.out.alloc hsz _).trans hbel2)
      clear hown2 hbel2
      go_wp2
      go_roundw
      case rel => exact ⟨k + 1, A2, c2, by omega, by go_num, rfl, by rw [HS.out]; exact Hown2.out, Hbel2.out⟩
      case measure => simp [intOf] <;> omega
    · obtain rfl : k = c.length := by omega
      have Ho : Hid (OwnI 3 w.heap.size wr A' c' (tab c.length fun n => pw c n)) := hd (by
        have := Hown.out
        rwa [List.take_of_length_le (by rw [tab_length]; omega)] at this)
      have hsz : w.heap.size ≤ wr.heap.size := hbel.size
      go_wp2_with fail
      refine (l2Result_n _ A' c' (tab c.length fun n => pw c n) _ Htl.out Ho.out.si (by rw [Htl.out]; omega) HB.out).mono ?_
      rintro e w2 ⟨A2, c2, rfl, own2, bel2⟩
      go_wp2
      go_ret2
      rw [Hf.out]
      exact ⟨A2, c2, rfl, own2.low hsz, hbel.trans (bel2.mono hsz)⟩

end Go.Proofs.Ythoodhdcmckkpaa
