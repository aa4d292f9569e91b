/- Contracts: the program's and the reference's list of a polynomial's values. -/
import Derived.Test.YtkmblobfamhoiaaGrC
import Derived.Test.YtkmblobfamhoiaaSpecE
namespace Go.Proofs.Ytkmblobfamhoiaa
open Go.RowKit
set_option maxRecDepth 4000

def valsP (p : List Int) (frm cnt : Int) : Option (List Int) :=
  if validP p && (inB frm 200 && ((decide (0 ≤ cnt) && decide (cnt ≤ 60)) && decide (frm + cnt - 1 ≤ 200))) then some (tab cnt.toNat fun i => val p (frm + i)) else none

theorem valsP_some {p q : List Int} {frm cnt : Int} (h : valsP p frm cnt = some q) : validP p = true ∧ inB frm 200 = true ∧ (0 ≤ cnt ∧ cnt ≤ 60) ∧ frm + cnt - 1 ≤ 200 ∧ q = (tab cnt.toNat fun i => val p (frm + i)) ∧ (q.length : Int) = cnt := by
  unfold valsP at h
  split at h
  · rename_i hc
    simp only [Bool.and_eq_true, decide_eq_true_eq] at hc
    injection h with h
    refine ⟨hc.1, hc.2.1, hc.2.2.1, hc.2.2.2, h.symm, ?_⟩
    rw [← h, tab_length]; omega
  · cases h

set_option maxHeartbeats 1600000 in
theorem ValuesOf_any (A : Option Addr) (c : Nat) (p : List Int) (frm cnt : Int) (w : World) (h : SI w A p) :
    Calls Try.prog 60 #[.slice A p.length c, .int .i64 frm, .int .i64 cnt] w fun e w' => RetO 3 w.heap.size w (valsP p frm cnt) e w' := by
  obtain ⟨i0, hi, hz0, hz1, hz2⟩ := info_parts infoI
  have Hh := hd h
  clear h
  cases hv : validP p
  · have Hf : Hid (valsP p frm cnt = none) := hd (by simp [valsP, hv])
    go_enter Try.func60, Try.ntmps60
    go_wp2_with (go_at_call 116; refine (PolyValid_any A c p _ Hh.out).mono ?_; rintro e w' ⟨rfl, rfl⟩)
    go_ret2
    exact RetO.none_ Hf.out (Below.refl _ _)
  cases hb : inB frm 200
  · have Hf : Hid (valsP p frm cnt = none) := hd (by simp [valsP, hb])
    go_enter Try.func60, Try.ntmps60
    go_wp2_with (first
      | (go_at_call 116; refine (PolyValid_any A c p _ Hh.out).mono ?_; rintro e w' ⟨rfl, rfl⟩)
      | (go_at_call 94; refine (within_any frm 200 _ (by decide) (by decide)).mono ?_; rintro e w' ⟨rfl, rfl⟩))
    go_ret2
    exact RetO.none_ Hf.out (Below.refl _ _)
  obtain ⟨hb1, hb2⟩ := inB_iff.1 hb
  by_cases h0 : 0 ≤ cnt
  case neg =>
    have Hf : Hid (valsP p frm cnt = none) := hd (by simp [valsP, h0])
    go_enter Try.func60, Try.ntmps60
    go_wp2_with (first
      | (go_at_call 116; refine (PolyValid_any A c p _ Hh.out).mono ?_; rintro e w' ⟨rfl, rfl⟩)
      | (go_at_call 94; refine (within_any frm 200 _ (by decide) (by decide)).mono ?_; rintro e w' ⟨rfl, rfl⟩))
    go_ret2
    exact RetO.none_ Hf.out (Below.refl _ _)
  by_cases h60 : cnt ≤ 60
  case neg =>
    have Hf : Hid (valsP p frm cnt = none) := hd (by simp [valsP, h60])
    go_enter Try.func60, Try.ntmps60
    go_wp2_with (first
      | (go_at_call 116; refine (PolyValid_any A c p _ Hh.out).mono ?_; rintro e w' ⟨rfl, rfl⟩)
      | (go_at_call 94; refine (within_any frm 200 _ (by decide) (by decide)).mono ?_; rintro e w' ⟨rfl, rfl⟩))
    go_ret2
    exact RetO.none_ Hf.out (Below.refl _ _)
  obtain ⟨n, rfl⟩ := Int.eq_ofNat_of_zero_le h0
  by_cases hm : frm + (n : Int) - 1 ≤ 200
  case neg =>
    have Hf : Hid (valsP p frm n = none) := hd (by simp [valsP, hm])
    go_enter Try.func60, Try.ntmps60
    go_wp2_with (first
      | (go_at_call 116; refine (PolyValid_any A c p _ Hh.out).mono ?_; rintro e w' ⟨rfl, rfl⟩)
      | (go_at_call 94; refine (within_any frm 200 _ (by decide) (by decide)).mono ?_; rintro e w' ⟨rfl, rfl⟩))
    go_ret2
    exact RetO.none_ Hf.out (Below.refl _ _)
  obtain ⟨h1, h7, hx⟩ := validP_iff.1 hv
  have Hf : Hid (valsP p frm n = some (tab n fun i => val p (frm + i))) := hd (by simp [valsP, hv, hb, h60, hm])
  have Hx := hd hx
  have Htl := hd (tab_length n fun i => val p (frm + i))
  clear hx
  go_enter Try.func60, Try.ntmps60
  go_wp2_with (first
    | (go_at_call 116; refine (PolyValid_any A c p _ Hh.out).mono ?_; rintro e w' ⟨rfl, rfl⟩)
    | (go_at_call 94; refine (within_any frm 200 _ (by decide) (by decide)).mono ?_; rintro e w' ⟨rfl, rfl⟩)
    | (at_make; refine wpList_make_full _ rfl _ _ 23 rfl w.heap.size 3 i0 (.int .i64 0) 1 Try.underlying23 hi hz0 hz1 .i64 .i64 _ _ n rfl rfl rfl rfl (by rw [hz2]; omega) (by unfold maxLen; omega) (Nat.le_refl _) ?_; intro w1 hown hgrow))
  have how0 := OW.made hown (by omega)
  have hbel0 : Below w.heap.size w w1 := (Below.refl _ _).grown hgrow (Nat.le_refl _) (by simp)
  clear hown hgrow
  go_loopw [35] (fun i wr => ∃ (k : Nat) (xs : List Int), k ≤ n ∧ i = .int .i64 k ∧ xs.take k = (tab n fun i => val p (frm + i)).take k ∧ OW 3 w.heap.size wr w.heap.size n xs ∧ Below w.heap.size w wr)
    (fun i _ => n - (intOf i).toNat)
  case atStart => exact ⟨0, List.replicate n 0, by omega, rfl, rfl, how0, hbel0⟩
  case round =>
    clear how0 hbel0
    obtain ⟨k, xs, hk, rfl, hxt, how, hbel⟩ := hrel
    have Hxt := hd hxt
    clear hxt
    by_cases hlt : k < n
    · have Hs := hd (Hh.out.below hbel)
      have Hok := hd (ValOk.of h7 Hx.out (n := frm + k) (by omega) (by omega))
      obtain ⟨o, ho, hco⟩ := how.cell hlt
      have hfo := how.frozen k
      clear ho
      go_wp2_with (go_at_call 117; refine (valueAt_any A c p (frm + k) _ Hs.out h7 Hok.out (by omega) (by omega)).mono ?_; rintro e w' ⟨rfl, rfl⟩)
      go_roundw
      case rel => exact ⟨k + 1, xs.set k (val p (frm + k)), by omega, by go_num, take_set_succ (by have := how.1; omega) Hxt.out (tab_at _ hlt), how.set k _, hbel.setCell (Nat.le_refl _) _⟩
      case measure => simp [intOf]; omega
    · obtain rfl : k = n := by omega
      have hxs : Hid (xs = tab k fun i => val p (frm + i)) := hd (by
        have h1 := Hxt.out
        rw [List.take_of_length_le (by have := how.1; omega), List.take_of_length_le (by rw [tab_length]; omega)] at h1
        exact h1)
      have Ho := hd how.own
      go_wp2
      go_ret2
      rw [hxs.out] at Ho
      exact RetO.some_ Hf.out Ho.out Htl.out.symm hbel

theorem l2Values_n (A : Option Addr) (c : Nat) (p : List Int) (frm : Int) (cnt : Nat) (w : World) (h : SI w A p) (hv : validP p = true) (hc : cnt ≤ 1000) (hr : ∀ i : Nat, i < cnt → -300 ≤ frm + i ∧ frm + i ≤ 300) :
    Calls Try.prog 148 #[.slice A p.length c, .int .i64 frm, .int .i64 1, .int .i64 cnt] w fun e w' => RetI 3 w.heap.size w (tab cnt fun i => val p (frm + i)) e w' :=
  l2Values_f _ A c p frm 1 cnt w (fun i _ => by rw [Int.one_mul]) h hv (by omega) (by omega) hc (fun i hi => by rw [Int.one_mul]; exact hr i hi)

set_option maxHeartbeats 800000 in
theorem sValuesOf_any (A : Option Addr) (c : Nat) (p : List Int) (frm cnt : Int) (w : World) (h : SI w A p) :
    Calls Try.prog 123 #[.slice A p.length c, .int .i64 frm, .int .i64 cnt] w fun e w' => RetO 3 w.heap.size w (valsP p frm cnt) e w' := by
  have Hh := hd h
  clear h
  cases hv : validP p
  · have Hf : Hid (valsP p frm cnt = none) := hd (by simp [valsP, hv])
    go_enter Try.func123, Try.ntmps123
    go_wp2_with (go_at_call 127; refine (sPolyValid_any A c p _ Hh.out).mono ?_; rintro e w' ⟨rfl, rfl⟩)
    go_ret2
    exact RetO.lit Hf.out (Below.refl _ _)
  cases hb : inB frm 200
  · have Hf : Hid (valsP p frm cnt = none) := hd (by simp [valsP, hb])
    go_enter Try.func123, Try.ntmps123
    go_wp2_with (first
      | (go_at_call 127; refine (sPolyValid_any A c p _ Hh.out).mono ?_; rintro e w' ⟨rfl, rfl⟩)
      | (go_at_call 146; refine (l2Argument_any frm _).mono ?_; rintro e w' ⟨rfl, rfl⟩))
    go_ret2
    exact RetO.lit Hf.out (Below.refl _ _)
  obtain ⟨hb1, hb2⟩ := inB_iff.1 hb
  cases hc : in2 cnt 0 60
  · have Hf : Hid (valsP p frm cnt = none) := hd (by
      have : (decide (0 ≤ cnt) && decide (cnt ≤ 60)) = false := hc
      rw [valsP, this]; simp)
    go_enter Try.func123, Try.ntmps123
    go_wp2_with (first
      | (go_at_call 127; refine (sPolyValid_any A c p _ Hh.out).mono ?_; rintro e w' ⟨rfl, rfl⟩)
      | (go_at_call 146; refine (l2Argument_any frm _).mono ?_; rintro e w' ⟨rfl, rfl⟩)
      | (go_at_call 96; refine (l1In_any cnt 0 60 _).mono ?_; rintro e w' ⟨rfl, rfl⟩))
    go_ret2
    exact RetO.lit Hf.out (Below.refl _ _)
  obtain ⟨h0, h60⟩ : 0 ≤ cnt ∧ cnt ≤ 60 := by simpa [in2] using hc
  obtain ⟨n, rfl⟩ := Int.eq_ofNat_of_zero_le h0
  by_cases hm : frm + (n : Int) - 1 ≤ 200
  case neg =>
    have Hf : Hid (valsP p frm n = none) := hd (by simp [valsP, hm])
    go_enter Try.func123, Try.ntmps123
    go_wp2_with (first
      | (go_at_call 127; refine (sPolyValid_any A c p _ Hh.out).mono ?_; rintro e w' ⟨rfl, rfl⟩)
      | (go_at_call 146; refine (l2Argument_any frm _).mono ?_; rintro e w' ⟨rfl, rfl⟩)
      | (go_at_call 96; refine (l1In_any n 0 60 _).mono ?_; rintro e w' ⟨rfl, rfl⟩))
    go_ret2
    exact RetO.lit Hf.out (Below.refl _ _)
  have Hf : Hid (valsP p frm n = some (tab n fun i => val p (frm + i))) := hd (by simp [valsP, hv, hb, h60, hm])
  have Htl := hd (tab_length n fun i => val p (frm + i))
  have Hr : Hid (∀ i : Nat, i < n → -300 ≤ frm + (i : Int) ∧ frm + (i : Int) ≤ 300) := hd (fun i hi => by omega)
  go_enter Try.func123, Try.ntmps123
  go_wp2_with (first
    | (go_at_call 127; refine (sPolyValid_any A c p _ Hh.out).mono ?_; rintro e w' ⟨rfl, rfl⟩)
    | (go_at_call 146; refine (l2Argument_any frm _).mono ?_; rintro e w' ⟨rfl, rfl⟩)
    | (go_at_call 96; refine (l1In_any n 0 60 _).mono ?_; rintro e w' ⟨rfl, rfl⟩)
    | (go_at_call 148; refine (l2Values_n A c p frm n _ Hh.out hv (by omega) Hr.out).mono ?_; rintro e w1 ⟨A1, c1, rfl, own1, bel1⟩))
  have O1 := hd own1
  clear own1
  go_ret2
  exact RetO.some_ Hf.out O1.out rfl bel1

end Go.Proofs.Ytkmblobfamhoiaa
