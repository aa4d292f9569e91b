/- Contracts of the program's functions on columns. -/
import Derived.Test.YtcalheieakppmaaProg
import Derived.Test.YtcalheieakppmaaMemV
import Derived.Test.YtcalheieakppmaaColB
import Derived.Laws.IdiomStrings
namespace Go.Proofs.Ytcalheieakppmaa
open Go.RowKit
set_option maxRecDepth 4000

theorem infoB : (Try.prog.info? 5).map (fun i => (i.zero, i.size, i.bytes)) = some (some (.int .u8 0), 1, 1) := by kernel_rfl
theorem infoS : (Try.prog.info? 9).map (fun i => (i.zero, i.size, i.bytes)) = some (some (.string ByteArray.empty), 1, 16) := by kernel_rfl

def wV (n : Int) : Bool := decide (1 ≤ n) && decide (n ≤ 12)

theorem widthValid_any (n : Int) (w : World) :
    Calls Try.prog 81 #[.int .i64 n] w fun e w' => e = .returned (.bool (wV n)) ∧ w = w' := by
  by_cases h1 : 1 ≤ n
  · by_cases h2 : n ≤ 12
    · have Hf : Hid (wV n = true) := hd (by simp [wV, h1, h2])
      go_enter Try.func81, Try.ntmps81
      go_wp2
      go_ret
      exact ⟨ret_bool Hf.out.symm, rfl⟩
    · have Hf : Hid (wV n = false) := hd (by simp [wV, h2])
      go_enter Try.func81, Try.ntmps81
      go_wp2
      go_ret
      exact ⟨ret_bool Hf.out.symm, rfl⟩
  · have Hf : Hid (wV n = false) := hd (by simp [wV, h1])
    go_enter Try.func81, Try.ntmps81
    go_wp2
    go_ret
    exact ⟨ret_bool Hf.out.symm, rfl⟩

/-! Bytes of a string. -/
theorem colV_wV (s : ByteArray) : colV s = (wV s.size && s.data.toList.all isDig) := by
  rw [colV, wV]
  congr 1
  rw [Bool.eq_iff_iff]
  simp
  omega

theorem str_at (s : ByteArray) (k : Nat) (h : k < s.size) : s.data.toList[k]? = some s[k] := by
  rw [List.getElem?_eq_getElem (by simpa using h)]
  rfl
theorem str_take (s : ByteArray) (k : Nat) (h : k < s.size) : s.data.toList.take (k + 1) = s.data.toList.take k ++ [s[k]] := by
  rw [List.take_succ_eq_append_getElem (by simpa using h)]; rfl
theorem str_len (s : ByteArray) : s.data.toList.length = s.size := Array.length_toList
theorem isDig_of (b : UInt8) : isDig b = (decide (48 ≤ (b.toNat : Int)) && decide ((b.toNat : Int) ≤ 57)) := by
  rw [isDig, Bool.eq_iff_iff]
  simp
  omega

set_option maxHeartbeats 400000 in
theorem ColumnValid_any (s : ByteArray) (w : World) (hs : s.size ≤ 17592186044416) :
    Calls Try.prog 151 #[.string s] w fun e w' => e = .returned (.bool (colV s)) ∧ w = w' := by
  cases hv : wV s.size
  · have Hf : Hid (colV s = false) := hd (by rw [colV_wV, hv]; rfl)
    go_enter Try.func151, Try.ntmps151
    go_wp2_with (go_at_call 81; refine (widthValid_any s.size _).mono ?_; rintro e w' ⟨rfl, rfl⟩)
    go_ret
    exact ⟨ret_bool Hf.out.symm, rfl⟩
  · have Hf : Hid (colV s = s.data.toList.all isDig) := hd (by rw [colV_wV, hv]; rfl)
    go_enter Try.func151, Try.ntmps151
    go_wp2_with (go_at_call 81; refine (widthValid_any s.size _).mono ?_; rintro e w' ⟨rfl, rfl⟩)
    go_loop [10] (fun i => ∃ k : Nat, k ≤ s.size ∧ i = .int .i64 k ∧ (s.data.toList.take k).all isDig = true) (fun i => s.size - (intOf i).toNat)
    case atStart => exact ⟨0, by omega, rfl, by simp⟩
    case round =>
      obtain ⟨k, hk, rfl, ht⟩ := hrel
      have Ht := hd ht
      clear ht
      by_cases hlt : k < s.size
      · have Hts := hd (str_take s k hlt)
        by_cases hd1 : 48 ≤ (s[k].toNat : Int)
        · by_cases hd2 : (s[k].toNat : Int) ≤ 57
          · have Hn : Hid ((s.data.toList.take (k + 1)).all isDig = true) := hd (by
              rw [Hts.out, List.all_append, Ht.out]
              simp [isDig_of, hd1, hd2])
            go_wp2
            go_round
            case rel => exact ⟨k + 1, by omega, by go_num, Hn.out⟩
            case measure => simp [intOf]; omega
          · have Hn : Hid (colV s = false) := hd (by
              rw [Hf.out]
              exact all_false_of isDig _ k _ (str_at s k hlt) (by simp [isDig_of, hd2]))
            go_wp2
            go_ret
            exact ⟨ret_bool Hn.out.symm, rfl⟩
        · have Hn : Hid (colV s = false) := hd (by
            rw [Hf.out]
            exact all_false_of isDig _ k _ (str_at s k hlt) (by simp [isDig_of, hd1]))
          go_wp2
          go_ret
          exact ⟨ret_bool Hn.out.symm, rfl⟩
      · have hke : k = s.size := by omega
        have Hn : Hid (colV s = true) := hd (by
          have := Ht.out
          rw [hke, List.take_of_length_le (by rw [str_len]; exact Nat.le_refl _)] at this
          rw [Hf.out, this])
        clear hke
        go_wp2
        go_ret
        exact ⟨ret_bool Hn.out.symm, rfl⟩

theorem powerOfTen_any (k : Nat) (w : World) (hk : k ≤ 12) :
    Calls Try.prog 122 #[.int .i64 k] w fun e w' => e = .returned (.int .i64 (ten k)) ∧ w = w' := by
  go_enter Try.func122, Try.ntmps122
  go_wp2
  go_loop [3, 5] (fun r i => ∃ j : Nat, j ≤ k ∧ i = .int .i64 j ∧ r = .int .i64 (ten j)) (fun _ i => k - (intOf i).toNat)
  case atStart => exact ⟨0, by omega, rfl, rfl⟩
  case round =>
    obtain ⟨j, hj, rfl, rfl⟩ := hrel
    by_cases hlt : j < k
    · obtain ⟨hb1, hb2⟩ := ten_bd (j + 1) (by omega)
      have HS := hd (ten_succ j)
      rw [HS.out] at hb1 hb2
      go_wp2
      go_round
      case rel => exact ⟨j + 1, by omega, by go_num, by rw [HS.out]⟩
      case measure => simp [intOf]; omega
    · obtain rfl : j = k := by omega
      go_wp2
      go_ret
      exact ⟨rfl, rfl⟩

theorem tmod_emod (n m : Int) (hm : 0 < m) : (if n.tmod m < 0 then n.tmod m + m else n.tmod m) = n % m := by
  have h := Int.tmod_eq_emod (a := n) (b := m)
  have h1 := Int.emod_nonneg n (by omega : m ≠ 0)
  have h2 := Int.emod_lt_of_pos n hm
  by_cases hc : 0 ≤ n ∨ m ∣ n
  · rw [if_pos hc] at h
    rw [if_neg (by omega)]; omega
  · rw [if_neg hc] at h
    rw [if_pos (by omega)]; omega

end Go.Proofs.Ytcalheieakppmaa
