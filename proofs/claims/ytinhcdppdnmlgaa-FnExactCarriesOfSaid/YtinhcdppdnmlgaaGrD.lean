/- Merged out of the texts ColM ColN ColO ColP ColQ. -/
import Derived.Test.YtinhcdppdnmlgaaProg
import Derived.Test.YtinhcdppdnmlgaaMemV
import Derived.Test.YtinhcdppdnmlgaaGrA
import Derived.Laws.IdiomStrings
import Derived.Lib.SliceRun
import Derived.Deep.RegionLaw
/- Contracts of the program's functions on columns. -/
namespace Go.Proofs.Ytinhcdppdnmlgaa
open Go.RowKit
set_option maxRecDepth 4000

theorem infoB : (Try.prog.info? 5).map (fun i => (i.zero, i.size, i.bytes)) = some (some (.int .u8 0), 1, 1) := by kernel_rfl
theorem infoS : (Try.prog.info? 9).map (fun i => (i.zero, i.size, i.bytes)) = some (some (.string ByteArray.empty), 1, 16) := by kernel_rfl

def wV (n : Int) : Bool := decide (1 ≤ n) && decide (n ≤ 12)

theorem widthValid_any (n : Int) (w : World) :
    Calls Try.prog 45 #[.int .i64 n] w fun e w' => e = .returned (.bool (wV n)) ∧ w = w' := by
  by_cases h1 : 1 ≤ n
  · by_cases h2 : n ≤ 12
    · have Hf : Hid (wV n = true) := hd (by simp [wV, h1, h2])
      go_enter Try.func45, Try.ntmps45
      go_wp2
      go_ret
      exact ⟨ret_bool Hf.out.symm, rfl⟩
    · have Hf : Hid (wV n = false) := hd (by simp [wV, h2])
      go_enter Try.func45, Try.ntmps45
      go_wp2
      go_ret
      exact ⟨ret_bool Hf.out.symm, rfl⟩
  · have Hf : Hid (wV n = false) := hd (by simp [wV, h1])
    go_enter Try.func45, Try.ntmps45
    go_wp2
    go_ret
    exact ⟨ret_bool Hf.out.symm, rfl⟩

/-! Bytes of a string. -/
theorem colV_wV (s : ByteArray) : colV s = (wV s.size && s.data.toList.all isDig) := by
  rw [colV, wV]
  congr 1
  rw [Bool.eq_iff_iff]
  simp
  omega

theorem str_at (s : ByteArray) (k : Nat) (h : k < s.size) : s.data.toList[k]? = some s[k] := by
  rw [List.getElem?_eq_getElem (by simpa using h)]
  rfl
theorem str_take (s : ByteArray) (k : Nat) (h : k < s.size) : s.data.toList.take (k + 1) = s.data.toList.take k ++ [s[k]] := by
  rw [List.take_succ_eq_append_getElem (by simpa using h)]; rfl
theorem str_len (s : ByteArray) : s.data.toList.length = s.size := Array.length_toList
theorem isDig_of (b : UInt8) : isDig b = (decide (48 ≤ (b.toNat : Int)) && decide ((b.toNat : Int) ≤ 57)) := by
  rw [isDig, Bool.eq_iff_iff]
  simp
  omega

set_option maxHeartbeats 400000 in
theorem ColumnValid_any (s : ByteArray) (w : World) (hs : s.size ≤ 17592186044416) :
    Calls Try.prog 37 #[.string s] w fun e w' => e = .returned (.bool (colV s)) ∧ w = w' := by
  cases hv : wV s.size
  · have Hf : Hid (colV s = false) := hd (by rw [colV_wV, hv]; rfl)
    go_enter Try.func37, Try.ntmps37
    go_wp2_with (go_at_call 45; refine (widthValid_any s.size _).mono ?_; rintro e w' ⟨rfl, rfl⟩)
    go_ret
    exact ⟨ret_bool Hf.out.symm, rfl⟩
  · have Hf : Hid (colV s = s.data.toList.all isDig) := hd (by rw [colV_wV, hv]; rfl)
    go_enter Try.func37, Try.ntmps37
    go_wp2_with (go_at_call 45; refine (widthValid_any s.size _).mono ?_; rintro e w' ⟨rfl, rfl⟩)
    go_loop [10] (fun i => ∃ k : Nat, k ≤ s.size ∧ i = .int .i64 k ∧ (s.data.toList.take k).all isDig = true) (fun i => s.size - (intOf i).toNat)
    case atStart => exact ⟨0, by omega, rfl, by simp⟩
    case round =>
      obtain ⟨k, hk, rfl, ht⟩ := hrel
      have Ht := hd ht
      clear ht
      by_cases hlt : k < s.size
      · have Hts := hd (str_take s k hlt)
        by_cases hd1 : 48 ≤ (s[k].toNat : Int)
        · by_cases hd2 : (s[k].toNat : Int) ≤ 57
          · have Hn : Hid ((s.data.toList.take (k + 1)).all isDig = true) := hd (by
              rw [Hts.out, List.all_append, Ht.out]
              simp [isDig_of, hd1, hd2])
            go_wp2
            go_round
            case rel => exact ⟨k + 1, by omega, by go_num, Hn.out⟩
            case measure => simp [intOf]; omega
          · have Hn : Hid (colV s = false) := hd (by
              rw [Hf.out]
              exact all_false_of isDig _ k _ (str_at s k hlt) (by simp [isDig_of, hd2]))
            go_wp2
            go_ret
            exact ⟨ret_bool Hn.out.symm, rfl⟩
        · have Hn : Hid (colV s = false) := hd (by
            rw [Hf.out]
            exact all_false_of isDig _ k _ (str_at s k hlt) (by simp [isDig_of, hd1]))
          go_wp2
          go_ret
          exact ⟨ret_bool Hn.out.symm, rfl⟩
      · have hke : k = s.size := by omega
        have Hn : Hid (colV s = true) := hd (by
          have := Ht.out
          rw [hke, List.take_of_length_le (by rw [str_len]; exact Nat.le_refl _)] at this
          rw [Hf.out, this])
        clear hke
        go_wp2
        go_ret
        exact ⟨ret_bool Hn.out.symm, rfl⟩

theorem tmod_emod (n m : Int) (hm : 0 < m) : (if n.tmod m < 0 then n.tmod m + m else n.tmod m) = n % m := by
  have h := Int.tmod_eq_emod (a := n) (b := m)
  have h1 := Int.emod_nonneg n (by omega : m ≠ 0)
  have h2 := Int.emod_lt_of_pos n hm
  by_cases hc : 0 ≤ n ∨ m ∣ n
  · rw [if_pos hc] at h
    rw [if_neg (by omega)]; omega
  · rw [if_neg hc] at h
    rw [if_pos (by omega)]; omega

end Go.Proofs.Ytinhcdppdnmlgaa

/- Contracts of the program's functions on columns: shown numbers, values. -/
namespace Go.Proofs.Ytinhcdppdnmlgaa
open Go.RowKit
set_option maxRecDepth 4000

/-- The digit with the index m of the column of width W that shows v, as a number of its sign. -/
def dgt (W v m : Nat) : Int := ((48 + v / 10 ^ (W - 1 - m) % 10 : Nat) : Int)

theorem dig_at : ∀ (W v m : Nat), m < W → (dig W v)[m]? = some (UInt8.ofNat (48 + v / 10 ^ (W - 1 - m) % 10))
  | 0, v, m, h => absurd h (by omega)
  | W + 1, v, m, h => by
    rw [dig]
    by_cases hm : m < W
    · rw [List.getElem?_append_left (by rw [dig_length]; exact hm), dig_at W (v / 10) m hm]
      congr 2
      rw [Nat.div_div_eq_div_mul, show W + 1 - 1 - m = (W - 1 - m) + 1 by omega, Nat.pow_succ, Nat.mul_comm]
    · obtain rfl : m = W := by omega
      rw [List.getElem?_append_right (by rw [dig_length]; exact Nat.le_refl _), dig_length, Nat.sub_self]
      simp

theorem dig_nums (W v : Nat) : (dig W v).map (fun b => ((b.toNat : Nat) : Int)) = tab W fun m => dgt W v m := by
  refine List.ext_getElem? fun m => ?_
  rw [List.getElem?_map]
  by_cases hm : m < W
  · rw [dig_at W v m hm, tab_at _ hm, Option.map_some, digit_toNat]; rfl
  · rw [List.getElem?_eq_none (by rw [dig_length]; omega), List.getElem?_eq_none (by rw [tab_length]; omega)]; rfl

/-- 'string(b)' of a row of the call's own that holds the digits of v. -/
theorem run_str {src dst e : TypeId} {B : Nat} {E : TypeId} {w : World} {g c W v : Nat} {xs : List Int} (hs : Try.prog.underlying src = some (.slice e)) (he : Try.prog.underlying e = some (.int .u8)) (hd' : Try.prog.underlying dst = some .string)
    (h : OwnB E B w (some ⟨g, 0, none⟩) c xs) (hx : xs = tab W fun m => dgt W v m) (hv : v < 10 ^ W) :
    (convert src dst (.slice (some ⟨g, 0, none⟩) W c)).run Try.prog w = .ok (.string (showC W v)) w := by
  subst hx
  have hl : (dig W v).length = W := dig_length W v
  have := run_convert_bytes_back (P := Try.prog) w src dst e ⟨g, 0, none⟩ c (dig W v) hs he hd' (fun j hj => by
    rw [hl] at hj
    obtain ⟨g', x, hx, hg, hc, _⟩ := h.at_ (k := j) (by rw [tab_length]; exact hj)
    simp only [Option.some.injEq, Addr.mk.injEq, and_true] at hg
    subst hg
    rw [tab_at _ hj] at hx
    injection hx with hx
    have hadd : (⟨g, 0, none⟩ : Addr).add j = ⟨g, j, none⟩ := by unfold Addr.add; split <;> simp_all
    rw [hadd, hc, ← hx]
    have h2 := dig_at W v j hj
    obtain ⟨h3, h4⟩ := List.getElem?_eq_some_iff.1 h2
    rw [h4, digit_toNat]; rfl)
  rw [hl] at this
  rw [this]
  congr 2
  rw [showC]
  congr 2
  have : ((v : Int) % ten W).toNat = v := by
    rw [Int.emod_eq_of_lt (by omega) (by unfold ten; omega)]; rfl
  rw [this]

theorem show_step {W v j l q : Nat} {xs : List Int} (hxl : xs.length = W) (hxd : xs.drop (W - j) = (tab W fun m => dgt W v m).drop (W - j)) (hlW : l < W) (h1 : W - (j + 1) = l) (h2 : W - j = l + 1) (hdg : dgt W v l = ((48 + q % 10 : Nat) : Int)) :
    (xs.set l (48 + (q : Int) % 10)).drop (W - (j + 1)) = (tab W fun m => dgt W v m).drop (W - (j + 1)) := by
  have a : (xs.set l (48 + (q : Int) % 10)).drop l = (48 + (q : Int) % 10) :: (xs.set l (48 + (q : Int) % 10)).drop (l + 1) := by
    rw [List.drop_eq_getElem_cons (by rw [List.length_set, hxl]; exact hlW), List.getElem_set_self]
  have b : (tab W fun m => dgt W v m).drop l = dgt W v l :: (tab W fun m => dgt W v m).drop (l + 1) := by
    obtain ⟨h3, h4⟩ := List.getElem?_eq_some_iff.1 (tab_at (fun m => dgt W v m) hlW)
    rw [List.drop_eq_getElem_cons h3, h4]
  rw [h2] at hxd
  rw [h1, a, b, List.drop_set_of_lt (by omega), hxd, hdg]
  congr 1

end Go.Proofs.Ytinhcdppdnmlgaa

/- Contracts of the program's functions on columns: values, sums, differences. -/
namespace Go.Proofs.Ytinhcdppdnmlgaa
open Go.RowKit
set_option maxRecDepth 4000

theorem colV_yes (s : ByteArray) (b : Bool) (w : World) (hs : s.size ≤ 17592186044416) (hb : colV s = b) :
    Calls Try.prog 37 #[.string s] w fun e w' => e = .returned (.bool b) ∧ w = w' := by
  subst hb; exact ColumnValid_any s w hs

theorem dval_take (s : ByteArray) (k : Nat) (h : k < s.size) : dval (s.data.toList.take (k + 1)) = 10 * dval (s.data.toList.take k) + ((s[k].toNat : Int) - 48) := by
  rw [str_take s k h, dval_snoc]

/-- Both are columns of the same width. -/
def alikeB (a b : ByteArray) : Bool := colV a && (colV b && decide (a.size = b.size))

theorem alike_any (a b : ByteArray) (w : World) (ha : a.size ≤ 17592186044416) (hb : b.size ≤ 17592186044416) :
    Calls Try.prog 25 #[.string a, .string b] w fun e w' => e = .returned (.bool (alikeB a b)) ∧ w = w' := by
  cases h1 : colV a
  · have Hf : Hid (alikeB a b = false) := hd (by simp [alikeB, h1])
    go_enter Try.func25, Try.ntmps25
    go_wp2_with fail
    refine (colV_yes a false _ ha h1).mono ?_
    rintro e w' ⟨rfl, rfl⟩
    go_wp2
    go_ret
    exact ⟨ret_bool Hf.out.symm, rfl⟩
  cases h2 : colV b
  · have Hf : Hid (alikeB a b = false) := hd (by simp [alikeB, h2])
    go_enter Try.func25, Try.ntmps25
    go_wp2_with fail
    refine (colV_yes a true _ ha h1).mono ?_
    rintro e w' ⟨rfl, rfl⟩
    go_wp2_with fail
    refine (colV_yes b false _ hb h2).mono ?_
    rintro e w' ⟨rfl, rfl⟩
    go_wp2
    go_ret
    exact ⟨ret_bool Hf.out.symm, rfl⟩
  · have Hf : Hid (alikeB a b = decide (a.size = b.size)) := hd (by simp [alikeB, h1, h2])
    go_enter Try.func25, Try.ntmps25
    go_wp2_with fail
    refine (colV_yes a true _ ha h1).mono ?_
    rintro e w' ⟨rfl, rfl⟩
    go_wp2_with fail
    refine (colV_yes b true _ hb h2).mono ?_
    rintro e w' ⟨rfl, rfl⟩
    by_cases hsz : a.size = b.size
    · have e1 : ((a.size : Int) == b.size) = true := by simp [hsz]
      have Hg : Hid (alikeB a b = true) := hd (by rw [Hf.out]; simp [hsz])
      clear hsz
      go_wp2
      go_ret
      exact ⟨ret_bool Hg.out.symm, rfl⟩
    · have e1 : ((a.size : Int) == b.size) = false := by simp; omega
      have Hg : Hid (alikeB a b = false) := hd (by rw [Hf.out]; simp [hsz])
      clear hsz
      go_wp2
      go_ret
      exact ⟨ret_bool Hg.out.symm, rfl⟩

theorem alike_b (a b : ByteArray) (t : Bool) (w : World) (ha : a.size ≤ 17592186044416) (hb : b.size ≤ 17592186044416) (ht : alikeB a b = t) :
    Calls Try.prog 25 #[.string a, .string b] w fun e w' => e = .returned (.bool t) ∧ w = w' := by
  subst ht; exact alike_any a b w ha hb

theorem alike_c (W : Nat) (x y : Int) (w : World) (h1 : 1 ≤ W) (h12 : W ≤ 12) :
    Calls Try.prog 25 #[.string (showC W x), .string (showC W y)] w fun e w' => e = .returned (.bool true) ∧ w = w' := by
  have := alike_any (showC W x) (showC W y) w (by rw [showC_size]; omega) (by rw [showC_size]; omega)
  rwa [show alikeB (showC W x) (showC W y) = true by simp [alikeB, colV_showC _ h1 h12, showC_size]] at this

theorem add_mod_show (W : Nat) (x y : Int) : (x % ten W + y % ten W) % ten W = (x + y) % ten W := (Int.add_emod x y _).symm
theorem sub_mod_show (W : Nat) (x y : Int) : (x % ten W - y % ten W) % ten W = (x - y) % ten W := (Int.sub_emod x y _).symm
theorem neg_mod_show (W : Nat) (x : Int) : (-(x % ten W)) % ten W = (-x) % ten W := by
  have h := sub_mod_show W 0 x
  rw [Int.zero_emod, Int.zero_sub, Int.zero_sub] at h
  exact h

/-- A string and a bool are returned; nothing that was there before has changed. -/
def RetSB (w : World) (s : ByteArray) (ok : Bool) (e : Ending) (w' : World) : Prop := e = .returned (.tuple #[.string s, .bool ok]) ∧ Below w.heap.size w w'

end Go.Proofs.Ytinhcdppdnmlgaa

/- Contracts of the program's functions on lists of columns: copies, turns. -/
namespace Go.Proofs.Ytinhcdppdnmlgaa
open Go.RowKit
set_option maxRecDepth 4000

/-- The columns from the first ones of us and the others of vs. -/
def mixV (us vs : List Int) (k : Nat) : List Int := us.take k ++ vs.drop k
theorem mixV_zero (us vs : List Int) : mixV us vs 0 = vs := by simp [mixV]
theorem mixV_length {us vs : List Int} (h : us.length = vs.length) (k : Nat) : (mixV us vs k).length = vs.length := by
  simp [mixV]; omega
theorem mixV_full {us vs : List Int} (h : us.length = vs.length) {k : Nat} (hk : vs.length ≤ k) : mixV us vs k = us := by
  rw [mixV, List.drop_eq_nil_of_le hk, List.take_of_length_le (by omega), List.append_nil]
theorem mixV_set {us vs : List Int} (h : us.length = vs.length) {k : Nat} {x : Int} (hx : us[k]? = some x) : (mixV us vs k).set k x = mixV us vs (k + 1) := by
  obtain ⟨hk, rfl⟩ := List.getElem?_eq_some_iff.1 hx
  refine List.ext_getElem? fun i => ?_
  rw [List.getElem?_set]
  have hl := mixV_length h k
  by_cases hi : k = i
  · subst hi
    rw [if_pos rfl, if_pos (by omega), mixV, List.getElem?_append_left (by simp; omega), List.getElem?_take_of_lt (by omega), List.getElem?_eq_getElem hk]
  · rw [if_neg hi, mixV, mixV]
    by_cases hlt : i < k
    · rw [List.getElem?_append_left (by simp; omega), List.getElem?_append_left (by simp; omega), List.getElem?_take_of_lt (by omega), List.getElem?_take_of_lt (by omega)]
    · rw [List.getElem?_append_right (by simp; omega), List.getElem?_append_right (by simp; omega), List.getElem?_drop, List.getElem?_drop]
      simp only [List.length_take]
      congr 1
      omega
theorem mixV_same {us vs : List Int} (h : us.length = vs.length) {k : Nat} (hx : us[k]? = vs[k]?) (hk : k < vs.length) : mixV us vs (k + 1) = mixV us vs k := by
  have e : us[k]? = some us[k] := List.getElem?_eq_getElem (by omega)
  rw [← mixV_set h e]
  refine List.ext_getElem? fun i => ?_
  rw [List.getElem?_set]
  by_cases hi : k = i
  · subst hi
    rw [if_pos rfl, if_pos (by rw [mixV_length h]; exact hk), mixV, List.getElem?_append_right (by simp; omega), List.getElem?_drop]
    simp only [List.length_take]
    rw [show k + (k - min k us.length) = k by omega, ← hx, e]
  · rw [if_neg hi]

theorem eng_set (W : Nat) (vs : List Int) (k : Nat) (x : Int) : (eng W vs).set k (showC W x) = eng W (vs.set k x) := by simp [eng, List.map_set]

end Go.Proofs.Ytinhcdppdnmlgaa

/- Contracts of the program's functions on lists of columns: turns back, many turns, halves of turns. -/
namespace Go.Proofs.Ytinhcdppdnmlgaa
open Go.RowKit
set_option maxRecDepth 4000

theorem mixV_back {us vs : List Int} (h : us.length = vs.length) {k : Nat} {x : Int} (hx : us[k]? = some x) : (mixV vs us (k + 1)).set k x = mixV vs us k := by
  obtain ⟨hk, rfl⟩ := List.getElem?_eq_some_iff.1 hx
  refine List.ext_getElem? fun i => ?_
  rw [List.getElem?_set]
  have hl := mixV_length h.symm (k + 1)
  by_cases hi : k = i
  · subst hi
    rw [if_pos rfl, if_pos (by omega), mixV, List.getElem?_append_right (by simp; omega), List.getElem?_drop]
    simp only [List.length_take]
    rw [show k + (k - min k vs.length) = k by omega, List.getElem?_eq_getElem hk]
  · rw [if_neg hi, mixV, mixV]
    by_cases hlt : i < k
    · rw [List.getElem?_append_left (by simp; omega), List.getElem?_append_left (by simp; omega), List.getElem?_take_of_lt (by omega), List.getElem?_take_of_lt (by omega)]
    · rw [List.getElem?_append_right (by simp; omega), List.getElem?_append_right (by simp; omega), List.getElem?_drop, List.getElem?_drop]
      simp only [List.length_take]
      congr 1
      omega

theorem mixV_at {us vs : List Int} {k i : Nat} (h : us.length = vs.length) (hi : k ≤ i) : (mixV vs us k)[i]? = us[i]? := by
  by_cases hk : k ≤ vs.length
  · rw [mixV, List.getElem?_append_right (by simp; omega), List.getElem?_drop]
    simp only [List.length_take]
    congr 1
    omega
  · rw [List.getElem?_eq_none (by rw [mixV_length h.symm]; omega), List.getElem?_eq_none (by omega)]

theorem mixV_start {us vs : List Int} (h : us.length = vs.length) {k : Nat} (hk : k + 1 = vs.length) (he : us[k]? = vs[k]?) : mixV vs us k = vs := by
  refine List.ext_getElem? fun i => ?_
  by_cases hi : k ≤ i
  · rw [mixV_at h hi]
    by_cases hik : i = k
    · rw [hik, he]
    · rw [List.getElem?_eq_none (by omega), List.getElem?_eq_none (by omega)]
  · rw [mixV, List.getElem?_append_left (by simp; omega), List.getElem?_take_of_lt (by omega)]

end Go.Proofs.Ytinhcdppdnmlgaa
