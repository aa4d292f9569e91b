/- Contracts of both sides' functions that make a column of a number. -/
import Derived.Test.YtcalheieakppmaaEngC
import Derived.Test.YtcalheieakppmaaSpeT
namespace Go.Proofs.Ytcalheieakppmaa
open Go.RowKit
set_option maxRecDepth 4000

theorem colO_out {x N : Int} (h : wV N = false) : colO x N = none := by
  unfold wV at h
  rw [colO, h]; rfl
theorem colO_not {x : Int} {W : Nat} (h : fitsB x W = false) : colO x W = none := by
  rw [colO, Int.toNat_natCast, h, Bool.and_false]; rfl
theorem colO_yes {x : Int} {W : Nat} (h1 : 1 ≤ W) (h12 : W ≤ 12) (h : fitsB x W = true) : colO x W = some (showC W x) := by
  have e1 : (1 : Int) ≤ W := by omega
  have e2 : (W : Int) ≤ 12 := by omega
  rw [colO, Int.toNat_natCast, h, if_pos (by simp [e1, e2])]
theorem colO_is {x N : Int} {s : ByteArray} (h : colO x N = some s) : s = showC N.toNat x ∧ 1 ≤ N ∧ N ≤ 12 ∧ fitsB x N.toNat = true := by
  unfold colO at h
  split at h
  · rename_i hc
    simp only [Bool.and_eq_true, decide_eq_true_eq] at hc
    injection h with h
    exact ⟨h.symm, hc.1.1, hc.1.2, hc.2⟩
  · cases h

/-- The first k numbers have a column. -/
def AllOk (us : List Int) (N : Int) (k : Nat) : Prop := ∀ i x, i < k → us[i]? = some x → colO x N = some (showC N.toNat x)
theorem AllOk.zero (us : List Int) (N : Int) : AllOk us N 0 := fun i _ h => absurd h (by omega)
theorem AllOk.succ {us : List Int} {N : Int} {k : Nat} {x : Int} (h : AllOk us N k) (hx : us[k]? = some x) (hc : colO x N = some (showC N.toNat x)) : AllOk us N (k + 1) := by
  intro i y hi hy
  by_cases e : i = k
  · subst e; rw [hx] at hy; injection hy with hy; subst hy; exact hc
  · exact h i y (by omega) hy
theorem setE_all {us : List Int} {N : Int} (h1 : 1 ≤ us.length) (h : AllOk us N us.length) : setE us N = some (eng N.toNat us) := by
  have h0 := colO_is (h 0 us[0] (by omega) (List.getElem?_eq_getElem (by omega)))
  refine setE_some h0.2.1 h0.2.2.1 (fitsAll_iff.2 fun v hv => ?_)
  obtain ⟨i, hi⟩ := List.getElem?_of_mem hv
  have hlt := (List.getElem?_eq_some_iff.1 hi).1
  exact (colO_is (h i v hlt hi)).2.2.2
theorem setE_fail {us : List Int} {N : Int} {k : Nat} {x : Int} (hx : us[k]? = some x) (h : colO x N = none) : setE us N = none := by
  cases hw : (decide (1 ≤ N) && decide (N ≤ 12))
  · exact setE_out hw
  · refine setE_bad hx ?_
    rw [colO, hw, Bool.true_and] at h
    cases hf : fitsB x N.toNat
    · rfl
    · rw [hf] at h; cases h

/-- A string and a bool, or none. -/
def RetSO (w : World) (r : Option ByteArray) (e : Ending) (w' : World) : Prop := RetSB w (r.getD ByteArray.empty) r.isSome e w'
theorem RetSO.none_ {w w' : World} {r : Option ByteArray} (h : r = none) (hb : Below w.heap.size w w') : RetSO w r (.returned (.tuple #[.string ByteArray.empty, .bool false])) w' := by
  subst h; exact ⟨rfl, hb⟩
theorem RetSO.some_ {w w' : World} {r : Option ByteArray} {s : ByteArray} (h : r = some s) (hb : Below w.heap.size w w') : RetSO w r (.returned (.tuple #[.string s, .bool true])) w' := by
  subst h; exact ⟨rfl, hb⟩

theorem widthValid_b (n : Int) (b : Bool) (w : World) (h : wV n = b) : Calls Try.prog 81 #[.int .i64 n] w fun e w' => e = .returned (.bool b) ∧ w = w' := by
  subst h; exact widthValid_any n w
theorem l1Width_b (n : Int) (b : Bool) (w : World) (h : wV n = b) : Calls Try.prog 78 #[.int .i64 n] w fun e w' => e = .returned (.bool b) ∧ w = w' := by
  subst h; exact l1Width_any n w

theorem wV_nat {N : Int} (h : wV N = true) : ∃ W : Nat, N = W ∧ 1 ≤ W ∧ W ≤ 12 := by
  simp only [wV, Bool.and_eq_true, decide_eq_true_eq] at h
  exact ⟨N.toNat, by omega, by omega, by omega⟩

set_option maxHeartbeats 800000 in
theorem ColumnOf_any (x N : Int) (w : World) :
    Calls Try.prog 82 #[.int .i64 x, .int .i64 N] w fun e w' => RetSO w (colO x N) e w' := by
  cases hw : wV N
  · have Hf := hd (colO_out (x := x) hw)
    go_enter Try.func82, Try.ntmps82
    go_wp2_with fail
    refine (widthValid_b N false _ hw).mono ?_
    rintro e w' ⟨rfl, rfl⟩
    go_wp2
    go_ret2
    exact RetSO.none_ Hf.out (Below.refl _ _)
  obtain ⟨W, rfl, h1, h12⟩ := wV_nat hw
  obtain ⟨ht1, ht2⟩ := ten_bd W h12
  obtain ⟨h, Hh, he5⟩ : ∃ h, Hid (ten W / 2 = h) ∧ 5 ≤ h := ⟨_, hd rfl, (ten_even W h1).2⟩
  have he : ten W = 2 * h := by have := (ten_even W h1).1; rw [Hh.out] at this; omega
  have q1 : (2 * h) / 2 = h := by omega
  have q2 : (-(2 * h)).tdiv 2 = -h := by rw [show -(2 * h) = (-h) * 2 by omega]; exact Int.mul_tdiv_cancel _ (by decide)
  have q3 : (2 * h).tdiv 2 = h := by rw [show (2 * h) = h * 2 by omega]; exact Int.mul_tdiv_cancel _ (by decide)
  by_cases hx1 : x < -h
  · have Hf : Hid (colO x W = none) := hd (colO_not (by simp [fitsB, Hh.out]; omega))
    go_enter Try.func82, Try.ntmps82
    go_wp2_with fail
    refine (widthValid_b W true _ hw).mono ?_
    rintro e w' ⟨rfl, rfl⟩
    go_wp2_with fail
    refine (powerOfTen_any W _ h12).mono ?_
    rintro e w' ⟨rfl, rfl⟩
    rw [he]
    go_wp2
    go_ret2
    exact RetSO.none_ Hf.out (Below.refl _ _)
  by_cases hx2 : x < h
  case neg =>
    have Hf : Hid (colO x W = none) := hd (colO_not (by simp [fitsB, Hh.out]; omega))
    go_enter Try.func82, Try.ntmps82
    go_wp2_with fail
    refine (widthValid_b W true _ hw).mono ?_
    rintro e w' ⟨rfl, rfl⟩
    go_wp2_with fail
    refine (powerOfTen_any W _ h12).mono ?_
    rintro e w' ⟨rfl, rfl⟩
    rw [he]
    go_wp2
    go_ret2
    exact RetSO.none_ Hf.out (Below.refl _ _)
  have Hf : Hid (colO x W = some (showC W x)) := hd (colO_yes h1 h12 (by simp [fitsB, Hh.out]; omega))
  have Hm : Hid (x % (2 * h) = x % ten W) := hd (by rw [he])
  go_enter Try.func82, Try.ntmps82
  go_wp2_with fail
  refine (widthValid_b W true _ hw).mono ?_
  rintro e w' ⟨rfl, rfl⟩
  go_wp2_with fail
  refine (powerOfTen_any W _ h12).mono ?_
  rintro e w' ⟨rfl, rfl⟩
  rw [he]
  go_wp2_with fail
  refine (modulo_any x (2 * h) _ (by omega) (by omega)).mono ?_
  rintro e w' ⟨rfl, rfl⟩
  go_wp2_with fail
  refine (showNumber_c W _ x _ h12 Hm.out).mono ?_
  rintro e w' ⟨rfl, bb⟩
  go_wp2
  go_ret2
  exact RetSO.some_ Hf.out bb

theorem l1Fits_b (x : Int) (W : Nat) (b : Bool) (w : World) (h1 : 1 ≤ W) (h12 : W ≤ 12) (hb : fitsB x W = b) :
    Calls Try.prog 79 #[.int .i64 x, .int .i64 W] w fun e w' => e = .returned (.bool b) ∧ w = w' := by
  subst hb
  obtain ⟨ht1, ht2⟩ := ten_bd W h12
  obtain ⟨h, Hh, he5⟩ : ∃ h, Hid (ten W / 2 = h) ∧ 5 ≤ h := ⟨_, hd rfl, (ten_even W h1).2⟩
  have he : ten W = 2 * h := by have := (ten_even W h1).1; rw [Hh.out] at this; omega
  have q1 : (2 * h) / 2 = h := by omega
  by_cases hx1 : x < -h
  · have Hf : Hid (fitsB x W = false) := hd (by simp [fitsB, Hh.out]; omega)
    go_enter Try.func79, Try.ntmps79
    go_wp2_with fail
    refine (l1Ten_w W _ h12).mono ?_
    rintro e w' ⟨rfl, rfl⟩
    rw [he]
    go_wp2
    go_ret
    exact ⟨ret_bool Hf.out.symm, rfl⟩
  by_cases hx2 : x < h
  · have Hf : Hid (fitsB x W = true) := hd (by simp [fitsB, Hh.out]; omega)
    go_enter Try.func79, Try.ntmps79
    go_wp2_with fail
    refine (l1Ten_w W _ h12).mono ?_
    rintro e w' ⟨rfl, rfl⟩
    rw [he]
    go_wp2
    go_ret
    exact ⟨ret_bool Hf.out.symm, rfl⟩
  · have Hf : Hid (fitsB x W = false) := hd (by simp [fitsB, Hh.out]; omega)
    go_enter Try.func79, Try.ntmps79
    go_wp2_with fail
    refine (l1Ten_w W _ h12).mono ?_
    rintro e w' ⟨rfl, rfl⟩
    rw [he]
    go_wp2
    go_ret
    exact ⟨ret_bool (by rw [Hf.out]; simp; omega), rfl⟩

set_option maxHeartbeats 800000 in
theorem sColumnOf_any (x N : Int) (w : World) :
    Calls Try.prog 98 #[.int .i64 x, .int .i64 N] w fun e w' => RetSO w (colO x N) e w' := by
  cases hw : wV N
  · have Hf := hd (colO_out (x := x) hw)
    go_enter Try.func98, Try.ntmps98
    go_wp2_with fail
    refine (l1Width_b N false _ hw).mono ?_
    rintro e w' ⟨rfl, rfl⟩
    go_wp2
    go_ret2
    exact RetSO.none_ Hf.out (Below.refl _ _)
  obtain ⟨W, rfl, h1, h12⟩ := wV_nat hw
  cases hf : fitsB x W
  · have Hf := hd (colO_not hf)
    go_enter Try.func98, Try.ntmps98
    go_wp2_with fail
    refine (l1Width_b W true _ hw).mono ?_
    rintro e w' ⟨rfl, rfl⟩
    go_wp2_with fail
    refine (l1Fits_b x W false _ h1 h12 hf).mono ?_
    rintro e w' ⟨rfl, rfl⟩
    go_wp2
    go_ret2
    exact RetSO.none_ Hf.out (Below.refl _ _)
  · have Hf := hd (colO_yes h1 h12 hf)
    go_enter Try.func98, Try.ntmps98
    go_wp2_with fail
    refine (l1Width_b W true _ hw).mono ?_
    rintro e w' ⟨rfl, rfl⟩
    go_wp2_with fail
    refine (l1Fits_b x W true _ h1 h12 hf).mono ?_
    rintro e w' ⟨rfl, rfl⟩
    go_wp2_with fail
    refine (l1Show_any x W _ h12).mono ?_
    rintro e w' ⟨rfl, bb⟩
    go_wp2
    go_ret2
    exact RetSO.some_ Hf.out bb

theorem WidenColumn_c (W : Nat) (x N : Int) (w : World) (h1 : 1 ≤ W) (h12 : W ≤ 12) :
    Calls Try.prog 96 #[.string (showC W x), .int .i64 N] w fun e w' => RetSO w (colO (sgn W x) N) e w' := by
  go_enter Try.func96, Try.ntmps96
  go_wp2_with fail
  refine (SignedOf_c W x _ h1 h12).mono ?_
  rintro e w' ⟨rfl, rfl⟩
  go_wp2_with fail
  refine (ColumnOf_any (sgn W x) N _).mono ?_
  rintro e w' ⟨rfl, bb⟩
  go_wp2
  go_ret2
  exact ⟨rfl, bb⟩

theorem sWidenColumn_c (W : Nat) (x N : Int) (w : World) (h1 : 1 ≤ W) (h12 : W ≤ 12) :
    Calls Try.prog 95 #[.string (showC W x), .int .i64 N] w fun e w' => RetSO w (colO (sgn W x) N) e w' := by
  have Hcv := hd (colV_showC x h1 h12)
  go_enter Try.func95, Try.ntmps95
  go_wp2_with fail
  refine (sColV (showC W x) true _ (by rw [showC_size]; omega) Hcv.out).mono ?_
  rintro e w' ⟨rfl, rfl⟩
  go_wp2_with fail
  refine (l1Signed_c W x _ h1 h12).mono ?_
  rintro e w' ⟨rfl, rfl⟩
  go_wp2_with fail
  refine (sColumnOf_any (sgn W x) N _).mono ?_
  rintro e w' ⟨rfl, bb⟩
  go_wp2
  go_ret2
  exact ⟨rfl, bb⟩

end Go.Proofs.Ytcalheieakppmaa
