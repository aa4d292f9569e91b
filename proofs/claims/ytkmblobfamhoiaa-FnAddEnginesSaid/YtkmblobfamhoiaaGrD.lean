/- Merged out of the texts ColM ColN ColO ColP ColQ. -/
import Derived.Test.YtkmblobfamhoiaaProg
import Derived.Test.YtkmblobfamhoiaaMemV
import Derived.Test.YtkmblobfamhoiaaGrA
import Derived.Laws.IdiomStrings
import Derived.Lib.SliceRun
import Derived.Deep.RegionLaw
/- Contracts of the program's functions on columns. -/
namespace Go.Proofs.Ytkmblobfamhoiaa
open Go.RowKit
set_option maxRecDepth 4000

theorem infoB : (Try.prog.info? 5).map (fun i => (i.zero, i.size, i.bytes)) = some (some (.int .u8 0), 1, 1) := by kernel_rfl
theorem infoS : (Try.prog.info? 9).map (fun i => (i.zero, i.size, i.bytes)) = some (some (.string ByteArray.empty), 1, 16) := by kernel_rfl

def wV (n : Int) : Bool := decide (1 ≤ n) && decide (n ≤ 12)

theorem widthValid_any (n : Int) (w : World) :
    Calls Try.prog 122 #[.int .i64 n] w fun e w' => e = .returned (.bool (wV n)) ∧ w = w' := by
  by_cases h1 : 1 ≤ n
  · by_cases h2 : n ≤ 12
    · have Hf : Hid (wV n = true) := hd (by simp [wV, h1, h2])
      go_enter Try.func122, Try.ntmps122
      go_wp2
      go_ret
      exact ⟨ret_bool Hf.out.symm, rfl⟩
    · have Hf : Hid (wV n = false) := hd (by simp [wV, h2])
      go_enter Try.func122, Try.ntmps122
      go_wp2
      go_ret
      exact ⟨ret_bool Hf.out.symm, rfl⟩
  · have Hf : Hid (wV n = false) := hd (by simp [wV, h1])
    go_enter Try.func122, Try.ntmps122
    go_wp2
    go_ret
    exact ⟨ret_bool Hf.out.symm, rfl⟩

/-! Bytes of a string. -/
theorem colV_wV (s : ByteArray) : colV s = (wV s.size && s.data.toList.all isDig) := by
  rw [colV, wV]
  congr 1
  rw [Bool.eq_iff_iff]
  simp
  omega

theorem str_at (s : ByteArray) (k : Nat) (h : k < s.size) : s.data.toList[k]? = some s[k] := by
  rw [List.getElem?_eq_getElem (by simpa using h)]
  rfl
theorem str_take (s : ByteArray) (k : Nat) (h : k < s.size) : s.data.toList.take (k + 1) = s.data.toList.take k ++ [s[k]] := by
  rw [List.take_succ_eq_append_getElem (by simpa using h)]; rfl
theorem str_len (s : ByteArray) : s.data.toList.length = s.size := Array.length_toList
theorem isDig_of (b : UInt8) : isDig b = (decide (48 ≤ (b.toNat : Int)) && decide ((b.toNat : Int) ≤ 57)) := by
  rw [isDig, Bool.eq_iff_iff]
  simp
  omega

set_option maxHeartbeats 400000 in
theorem ColumnValid_any (s : ByteArray) (w : World) (hs : s.size ≤ 17592186044416) :
    Calls Try.prog 104 #[.string s] w fun e w' => e = .returned (.bool (colV s)) ∧ w = w' := by
  cases hv : wV s.size
  · have Hf : Hid (colV s = false) := hd (by rw [colV_wV, hv]; rfl)
    go_enter Try.func104, Try.ntmps104
    go_wp2_with (go_at_call 122; refine (widthValid_any s.size _).mono ?_; rintro e w' ⟨rfl, rfl⟩)
    go_ret
    exact ⟨ret_bool Hf.out.symm, rfl⟩
  · have Hf : Hid (colV s = s.data.toList.all isDig) := hd (by rw [colV_wV, hv]; rfl)
    go_enter Try.func104, Try.ntmps104
    go_wp2_with (go_at_call 122; refine (widthValid_any s.size _).mono ?_; rintro e w' ⟨rfl, rfl⟩)
    go_loop [10] (fun i => ∃ k : Nat, k ≤ s.size ∧ i = .int .i64 k ∧ (s.data.toList.take k).all isDig = true) (fun i => s.size - (intOf i).toNat)
    case atStart => exact ⟨0, by omega, rfl, by simp⟩
    case round =>
      obtain ⟨k, hk, rfl, ht⟩ := hrel
      have Ht := hd ht
      clear ht
      by_cases hlt : k < s.size
      · have Hts := hd (str_take s k hlt)
        by_cases hd1 : 48 ≤ (s[k].toNat : Int)
        · by_cases hd2 : (s[k].toNat : Int) ≤ 57
          · have Hn : Hid ((s.data.toList.take (k + 1)).all isDig = true) := hd (by
              rw [Hts.out, List.all_append, Ht.out]
              simp [isDig_of, hd1, hd2])
            go_wp2
            go_round
            case rel => exact ⟨k + 1, by omega, by go_num, Hn.out⟩
            case measure => simp [intOf]; omega
          · have Hn : Hid (colV s = false) := hd (by
              rw [Hf.out]
              exact all_false_of isDig _ k _ (str_at s k hlt) (by simp [isDig_of, hd2]))
            go_wp2
            go_ret
            exact ⟨ret_bool Hn.out.symm, rfl⟩
        · have Hn : Hid (colV s = false) := hd (by
            rw [Hf.out]
            exact all_false_of isDig _ k _ (str_at s k hlt) (by simp [isDig_of, hd1]))
          go_wp2
          go_ret
          exact ⟨ret_bool Hn.out.symm, rfl⟩
      · have hke : k = s.size := by omega
        have Hn : Hid (colV s = true) := hd (by
          have := Ht.out
          rw [hke, List.take_of_length_le (by rw [str_len]; exact Nat.le_refl _)] at this
          rw [Hf.out, this])
        clear hke
        go_wp2
        go_ret
        exact ⟨ret_bool Hn.out.symm, rfl⟩

theorem powerOfTen_any (k : Nat) (w : World) (hk : k ≤ 12) :
    Calls Try.prog 102 #[.int .i64 k] w fun e w' => e = .returned (.int .i64 (ten k)) ∧ w = w' := by
  go_enter Try.func102, Try.ntmps102
  go_wp2
  go_loop [3, 5] (fun r i => ∃ j : Nat, j ≤ k ∧ i = .int .i64 j ∧ r = .int .i64 (ten j)) (fun _ i => k - (intOf i).toNat)
  case atStart => exact ⟨0, by omega, rfl, rfl⟩
  case round =>
    obtain ⟨j, hj, rfl, rfl⟩ := hrel
    by_cases hlt : j < k
    · obtain ⟨hb1, hb2⟩ := ten_bd (j + 1) (by omega)
      have HS := hd (ten_succ j)
      rw [HS.out] at hb1 hb2
      go_wp2
      go_round
      case rel => exact ⟨j + 1, by omega, by go_num, by rw [HS.out]⟩
      case measure => simp [intOf]; omega
    · obtain rfl : j = k := by omega
      go_wp2
      go_ret
      exact ⟨rfl, rfl⟩

theorem tmod_emod (n m : Int) (hm : 0 < m) : (if n.tmod m < 0 then n.tmod m + m else n.tmod m) = n % m := by
  have h := Int.tmod_eq_emod (a := n) (b := m)
  have h1 := Int.emod_nonneg n (by omega : m ≠ 0)
  have h2 := Int.emod_lt_of_pos n hm
  by_cases hc : 0 ≤ n ∨ m ∣ n
  · rw [if_pos hc] at h
    rw [if_neg (by omega)]; omega
  · rw [if_neg hc] at h
    rw [if_pos (by omega)]; omega

end Go.Proofs.Ytkmblobfamhoiaa

/- Contracts of the program's functions on columns: shown numbers, values. -/
namespace Go.Proofs.Ytkmblobfamhoiaa
open Go.RowKit
set_option maxRecDepth 4000

theorem modulo_any (n m : Int) (w : World) (hm : 0 < m) (hm' : m ≤ 1000000000000) :
    Calls Try.prog 101 #[.int .i64 n, .int .i64 m] w fun e w' => e = .returned (.int .i64 (n % m)) ∧ w = w' := by
  have He := hd (tmod_emod n m hm)
  have hb1 : -m < n.tmod m := Int.lt_tmod_of_pos _ hm
  have hb2 : n.tmod m < m := Int.tmod_lt_of_pos _ hm
  have hm0 : ¬ m = 0 := by omega
  have hm1 : ¬ m = -1 := by omega
  obtain ⟨t, Ht⟩ : ∃ t, Hid (n.tmod m = t) := ⟨_, hd rfl⟩
  rw [Ht.out] at hb1 hb2
  have hT := Ht.out
  by_cases hn : t < 0
  · have Hf : Hid (t + m = n % m) := hd (by have := He.out; rw [Ht.out, if_pos hn] at this; exact this)
    go_enter Try.func101, Try.ntmps101
    go_wp2
    go_ret
    exact ⟨ret_int Hf.out, rfl⟩
  · have Hf : Hid (t = n % m) := hd (by have := He.out; rw [Ht.out, if_neg hn] at this; exact this)
    go_enter Try.func101, Try.ntmps101
    go_wp2
    go_ret
    exact ⟨ret_int Hf.out, rfl⟩

/-- The digit with the index m of the column of width W that shows v, as a number of its sign. -/
def dgt (W v m : Nat) : Int := ((48 + v / 10 ^ (W - 1 - m) % 10 : Nat) : Int)

theorem dig_at : ∀ (W v m : Nat), m < W → (dig W v)[m]? = some (UInt8.ofNat (48 + v / 10 ^ (W - 1 - m) % 10))
  | 0, v, m, h => absurd h (by omega)
  | W + 1, v, m, h => by
    rw [dig]
    by_cases hm : m < W
    · rw [List.getElem?_append_left (by rw [dig_length]; exact hm), dig_at W (v / 10) m hm]
      congr 2
      rw [Nat.div_div_eq_div_mul, show W + 1 - 1 - m = (W - 1 - m) + 1 by omega, Nat.pow_succ, Nat.mul_comm]
    · obtain rfl : m = W := by omega
      rw [List.getElem?_append_right (by rw [dig_length]; exact Nat.le_refl _), dig_length, Nat.sub_self]
      simp

theorem dig_nums (W v : Nat) : (dig W v).map (fun b => ((b.toNat : Nat) : Int)) = tab W fun m => dgt W v m := by
  refine List.ext_getElem? fun m => ?_
  rw [List.getElem?_map]
  by_cases hm : m < W
  · rw [dig_at W v m hm, tab_at _ hm, Option.map_some, digit_toNat]; rfl
  · rw [List.getElem?_eq_none (by rw [dig_length]; omega), List.getElem?_eq_none (by rw [tab_length]; omega)]; rfl

/-- 'string(b)' of a row of the call's own that holds the digits of v. -/
theorem run_str {src dst e : TypeId} {B : Nat} {E : TypeId} {w : World} {g c W v : Nat} {xs : List Int} (hs : Try.prog.underlying src = some (.slice e)) (he : Try.prog.underlying e = some (.int .u8)) (hd' : Try.prog.underlying dst = some .string)
    (h : OwnB E B w (some ⟨g, 0, none⟩) c xs) (hx : xs = tab W fun m => dgt W v m) (hv : v < 10 ^ W) :
    (convert src dst (.slice (some ⟨g, 0, none⟩) W c)).run Try.prog w = .ok (.string (showC W v)) w := by
  subst hx
  have hl : (dig W v).length = W := dig_length W v
  have := run_convert_bytes_back (P := Try.prog) w src dst e ⟨g, 0, none⟩ c (dig W v) hs he hd' (fun j hj => by
    rw [hl] at hj
    obtain ⟨g', x, hx, hg, hc, _⟩ := h.at_ (k := j) (by rw [tab_length]; exact hj)
    simp only [Option.some.injEq, Addr.mk.injEq, and_true] at hg
    subst hg
    rw [tab_at _ hj] at hx
    injection hx with hx
    have hadd : (⟨g, 0, none⟩ : Addr).add j = ⟨g, j, none⟩ := by unfold Addr.add; split <;> simp_all
    rw [hadd, hc, ← hx]
    have h2 := dig_at W v j hj
    obtain ⟨h3, h4⟩ := List.getElem?_eq_some_iff.1 h2
    rw [h4, digit_toNat]; rfl)
  rw [hl] at this
  rw [this]
  congr 2
  rw [showC]
  congr 2
  have : ((v : Int) % ten W).toNat = v := by
    rw [Int.emod_eq_of_lt (by omega) (by unfold ten; omega)]; rfl
  rw [this]

theorem show_step {W v j l q : Nat} {xs : List Int} (hxl : xs.length = W) (hxd : xs.drop (W - j) = (tab W fun m => dgt W v m).drop (W - j)) (hlW : l < W) (h1 : W - (j + 1) = l) (h2 : W - j = l + 1) (hdg : dgt W v l = ((48 + q % 10 : Nat) : Int)) :
    (xs.set l (48 + (q : Int) % 10)).drop (W - (j + 1)) = (tab W fun m => dgt W v m).drop (W - (j + 1)) := by
  have a : (xs.set l (48 + (q : Int) % 10)).drop l = (48 + (q : Int) % 10) :: (xs.set l (48 + (q : Int) % 10)).drop (l + 1) := by
    rw [List.drop_eq_getElem_cons (by rw [List.length_set, hxl]; exact hlW), List.getElem_set_self]
  have b : (tab W fun m => dgt W v m).drop l = dgt W v l :: (tab W fun m => dgt W v m).drop (l + 1) := by
    obtain ⟨h3, h4⟩ := List.getElem?_eq_some_iff.1 (tab_at (fun m => dgt W v m) hlW)
    rw [List.drop_eq_getElem_cons h3, h4]
  rw [h2] at hxd
  rw [h1, a, b, List.drop_set_of_lt (by omega), hxd, hdg]
  congr 1

set_option maxHeartbeats 1600000 in
theorem showNumber_any (v W : Nat) (w : World) (hW : W ≤ 12) (hv : v < 10 ^ W) :
    Calls Try.prog 100 #[.int .i64 v, .int .i64 W] w fun e w' => e = .returned (.string (showC W v)) ∧ Below w.heap.size w w' := by
  obtain ⟨i0, hi, hz0, hz1, hz2⟩ := info_parts infoB
  have hvb : v < 1000000000000 := by
    have := ten_bd W hW
    unfold ten at this
    omega
  have Hv := hd hv
  clear hv
  go_enter Try.func100, Try.ntmps100
  go_wp2_with (at_make; refine wpList_make_full _ rfl _ _ 22 rfl w.heap.size 5 i0 (.int .u8 0) 1 Try.underlying22 hi hz0 hz1 .i64 .i64 _ _ W rfl rfl rfl rfl (by rw [hz2]; omega) (by unfold maxLen; omega) (Nat.le_refl _) ?_; intro w1 hown hgrow)
  have Hown0 : Hid (OwnB 5 w.heap.size w1 (some ⟨w.heap.size, 0, none⟩) W (List.replicate W 0)) := hd (OwnG.made 0 rfl hown (by omega))
  have Hbel0 : Hid (Below w.heap.size w w1) := hd ((Below.refl _ _).grown hgrow (Nat.le_refl _) (by simp))
  clear hown hgrow
  go_loopw [0, 6] (fun x i wr => ∃ (j : Nat) (xs : List Int), j ≤ W ∧ i = .int .i64 ((W : Int) - 1 - j) ∧ x = .int .i64 ((v / 10 ^ j : Nat) : Int) ∧ xs.length = W ∧ xs.drop (W - j) = (tab W fun m => dgt W v m).drop (W - j) ∧ OwnB 5 w.heap.size wr (some ⟨w.heap.size, 0, none⟩) W xs ∧ Below w.heap.size w wr)
    (fun _ i _ => (intOf i + 1).toNat)
  case atStart => exact ⟨0, List.replicate W 0, by omega, by simp, by simp, by simp, by rw [List.drop_eq_nil_of_le (by simp), List.drop_eq_nil_of_le (by rw [tab_length]; omega)], Hown0.out, Hbel0.out⟩
  case round =>
    clear Hown0 Hbel0
    obtain ⟨j, xs, hj, rfl, rfl, hxl, hxd, hown, hbel⟩ := hrel
    have Hxl := hd hxl
    have Hxd := hd hxd
    have Hown := hd hown
    have Hbel := hd hbel
    clear hxl hxd hown hbel
    obtain ⟨q, Hq⟩ : ∃ q, Hid (v / 10 ^ j = q) := ⟨_, hd rfl⟩
    rw [Hq.out]
    have hqb : q ≤ v := by rw [← Hq.out]; exact Nat.div_le_self _ _
    by_cases hlt : j < W
    · obtain ⟨l, hl⟩ : ∃ l, l + 1 + j = W := ⟨W - 1 - j, by omega⟩
      have hlW : l < W := by omega
      have ei : (W : Int) - 1 - j = (l : Int) := by omega
      rw [ei]
      obtain ⟨g, x, hx, hg, hc, hf⟩ := Hown.out.at_ (k := l) (by rw [Hxl.out]; exact hlW)
      simp only [Option.some.injEq, Addr.mk.injEq, and_true] at hg
      subst hg
      have Hnx : Hid (v / 10 ^ (j + 1) = q / 10) := hd (by rw [Nat.pow_succ, ← Nat.div_div_eq_div_mul, Hq.out])
      have Hdg : Hid (dgt W v l = ((48 + q % 10 : Nat) : Int)) := hd (by rw [dgt, show W - 1 - l = j by omega, Hq.out])
      have e1 : IntKind.u8.wrap (48 + (q : Int) % 10) = 48 + (q : Int) % 10 := by
        simp only [IntKind.wrap, IntKind.bits, IntKind.signed]
        simp
        omega
      have hll : ¬ (l : Int) < 0 := by omega
      clear hx ei
      go_wp2
      go_roundw
      case rel =>
        refine ⟨j + 1, xs.set l (48 + (q : Int) % 10), by omega, by go_num, by rw [Hnx.out]; rfl, by rw [List.length_set]; exact Hxl.out, ?_, Hown.out.set l _, Hbel.out.setCell (Nat.le_refl _) _⟩
        exact show_step Hxl.out Hxd.out hlW (by omega) (by omega) Hdg.out
      case measure => simp [intOf] <;> omega
    · obtain rfl : j = W := by omega
      have Hx : Hid (xs = tab j fun m => dgt j v m) := hd (by
        have := Hxd.out
        rwa [Nat.sub_self, List.drop_zero, List.drop_zero] at this)
      have ei : (j : Int) - 1 - j = -1 := by omega
      rw [ei]
      have qS := run_str (src := 22) (dst := 9) (e := 5) Try.underlying22 Try.underlying5 Try.underlying9 Hown.out Hx.out Hv.out
      go_wp2
      go_ret
      exact ⟨rfl, Hbel.out⟩

end Go.Proofs.Ytkmblobfamhoiaa

/- Contracts of the program's functions on columns: values, sums, differences. -/
namespace Go.Proofs.Ytkmblobfamhoiaa
open Go.RowKit
set_option maxRecDepth 4000

theorem colV_yes (s : ByteArray) (b : Bool) (w : World) (hs : s.size ≤ 17592186044416) (hb : colV s = b) :
    Calls Try.prog 104 #[.string s] w fun e w' => e = .returned (.bool b) ∧ w = w' := by
  subst hb; exact ColumnValid_any s w hs

theorem dval_take (s : ByteArray) (k : Nat) (h : k < s.size) : dval (s.data.toList.take (k + 1)) = 10 * dval (s.data.toList.take k) + ((s[k].toNat : Int) - 48) := by
  rw [str_take s k h, dval_snoc]

set_option maxHeartbeats 400000 in
theorem ValueOf_yes (s : ByteArray) (w : World) (hv : colV s = true) :
    Calls Try.prog 99 #[.string s] w fun e w' => e = .returned (.int .i64 (cval s)) ∧ w = w' := by
  obtain ⟨⟨h1, h12⟩, hdg⟩ := colV_iff.1 hv
  have Hdg := hd hdg
  have Hv := hd hv
  clear hv hdg
  go_enter Try.func99, Try.ntmps99
  go_wp2_with (go_at_call 104; refine (colV_yes s true _ (by omega) Hv.out).mono ?_; rintro e w' ⟨rfl, rfl⟩)
  go_loop [3, 10] (fun x i => ∃ k : Nat, k ≤ s.size ∧ i = .int .i64 k ∧ x = .int .i64 (dval (s.data.toList.take k))) (fun _ i => s.size - (intOf i).toNat)
  case atStart => exact ⟨0, by omega, rfl, by simp [dval]⟩
  case round =>
    obtain ⟨k, hk, rfl, rfl⟩ := hrel
    obtain ⟨x, Hx⟩ : ∃ x, Hid (dval (s.data.toList.take k) = x) := ⟨_, hd rfl⟩
    rw [Hx.out]
    have hb : 0 ≤ x ∧ x ≤ 1000000000000 := by
      have h2 := dval_nonneg (s.data.toList.take k) (by
        rw [List.all_eq_true]
        intro b hb
        exact List.all_eq_true.1 Hdg.out b (List.mem_of_mem_take hb))
      rw [Hx.out, List.length_take, str_len, Nat.min_eq_left hk] at h2
      have h3 := ten_bd k (by omega)
      unfold ten at h3
      omega
    obtain ⟨hb1, hb2⟩ := hb
    by_cases hlt : k < s.size
    · have HS := hd (dval_take s k hlt)
      rw [Hx.out] at HS
      have hdk : 48 ≤ (s[k].toNat : Int) ∧ (s[k].toNat : Int) ≤ 57 := by
        have := List.all_eq_true.1 Hdg.out _ (List.mem_of_getElem? (str_at s k hlt))
        rw [isDig_of] at this
        simpa using this
      obtain ⟨hd1, hd2⟩ := hdk
      have e1 : IntKind.u8.wrap ((s[k].toNat : Int) - 48) = (s[k].toNat : Int) - 48 := by
        simp only [IntKind.wrap, IntKind.bits, IntKind.signed]
        simp
        omega
      go_wp2
      go_round
      case rel => exact ⟨k + 1, by omega, by go_num, by rw [HS.out]; go_num⟩
      case measure => simp [intOf]; omega
    · have Hf : Hid (x = cval s) := hd (by
        have h2 := Hx.out
        rw [List.take_of_length_le (by rw [str_len]; omega)] at h2
        exact h2.symm)
      go_wp2
      go_ret
      exact ⟨ret_int Hf.out, rfl⟩

theorem ValueOf_c (W : Nat) (x v : Int) (w : World) (h1 : 1 ≤ W) (h12 : W ≤ 12) (hv : x % ten W = v) :
    Calls Try.prog 99 #[.string (showC W x)] w fun e w' => e = .returned (.int .i64 v) ∧ w = w' := by
  subst hv
  have := ValueOf_yes (showC W x) w (colV_showC x h1 h12)
  rwa [cval_showC] at this

/-- Both are columns of the same width. -/
def alikeB (a b : ByteArray) : Bool := colV a && (colV b && decide (a.size = b.size))

theorem alike_any (a b : ByteArray) (w : World) (ha : a.size ≤ 17592186044416) (hb : b.size ≤ 17592186044416) :
    Calls Try.prog 98 #[.string a, .string b] w fun e w' => e = .returned (.bool (alikeB a b)) ∧ w = w' := by
  cases h1 : colV a
  · have Hf : Hid (alikeB a b = false) := hd (by simp [alikeB, h1])
    go_enter Try.func98, Try.ntmps98
    go_wp2_with fail
    refine (colV_yes a false _ ha h1).mono ?_
    rintro e w' ⟨rfl, rfl⟩
    go_wp2
    go_ret
    exact ⟨ret_bool Hf.out.symm, rfl⟩
  cases h2 : colV b
  · have Hf : Hid (alikeB a b = false) := hd (by simp [alikeB, h2])
    go_enter Try.func98, Try.ntmps98
    go_wp2_with fail
    refine (colV_yes a true _ ha h1).mono ?_
    rintro e w' ⟨rfl, rfl⟩
    go_wp2_with fail
    refine (colV_yes b false _ hb h2).mono ?_
    rintro e w' ⟨rfl, rfl⟩
    go_wp2
    go_ret
    exact ⟨ret_bool Hf.out.symm, rfl⟩
  · have Hf : Hid (alikeB a b = decide (a.size = b.size)) := hd (by simp [alikeB, h1, h2])
    go_enter Try.func98, Try.ntmps98
    go_wp2_with fail
    refine (colV_yes a true _ ha h1).mono ?_
    rintro e w' ⟨rfl, rfl⟩
    go_wp2_with fail
    refine (colV_yes b true _ hb h2).mono ?_
    rintro e w' ⟨rfl, rfl⟩
    by_cases hsz : a.size = b.size
    · have e1 : ((a.size : Int) == b.size) = true := by simp [hsz]
      have Hg : Hid (alikeB a b = true) := hd (by rw [Hf.out]; simp [hsz])
      clear hsz
      go_wp2
      go_ret
      exact ⟨ret_bool Hg.out.symm, rfl⟩
    · have e1 : ((a.size : Int) == b.size) = false := by simp; omega
      have Hg : Hid (alikeB a b = false) := hd (by rw [Hf.out]; simp [hsz])
      clear hsz
      go_wp2
      go_ret
      exact ⟨ret_bool Hg.out.symm, rfl⟩

theorem alike_b (a b : ByteArray) (t : Bool) (w : World) (ha : a.size ≤ 17592186044416) (hb : b.size ≤ 17592186044416) (ht : alikeB a b = t) :
    Calls Try.prog 98 #[.string a, .string b] w fun e w' => e = .returned (.bool t) ∧ w = w' := by
  subst ht; exact alike_any a b w ha hb

theorem alike_c (W : Nat) (x y : Int) (w : World) (h1 : 1 ≤ W) (h12 : W ≤ 12) :
    Calls Try.prog 98 #[.string (showC W x), .string (showC W y)] w fun e w' => e = .returned (.bool true) ∧ w = w' := by
  have := alike_any (showC W x) (showC W y) w (by rw [showC_size]; omega) (by rw [showC_size]; omega)
  rwa [show alikeB (showC W x) (showC W y) = true by simp [alikeB, colV_showC _ h1 h12, showC_size]] at this

theorem showNumber_c (W : Nat) (v x : Int) (w : World) (h12 : W ≤ 12) (hv : v = x % ten W) :
    Calls Try.prog 100 #[.int .i64 v, .int .i64 W] w fun e w' => e = .returned (.string (showC W x)) ∧ Below w.heap.size w w' := by
  subst hv
  have hb := mod_bd W x
  obtain ⟨n, hn⟩ := Int.eq_ofNat_of_zero_le hb.1
  have hlt : ((n : Nat) : Int) < ((10 ^ W : Nat) : Int) := by rw [← hn]; exact hb.2
  have := showNumber_any n W w h12 (Int.ofNat_lt.1 hlt)
  rw [← hn, showC_mod] at this
  exact this

theorem add_mod_show (W : Nat) (x y : Int) : (x % ten W + y % ten W) % ten W = (x + y) % ten W := (Int.add_emod x y _).symm
theorem sub_mod_show (W : Nat) (x y : Int) : (x % ten W - y % ten W) % ten W = (x - y) % ten W := (Int.sub_emod x y _).symm
theorem neg_mod_show (W : Nat) (x : Int) : (-(x % ten W)) % ten W = (-x) % ten W := by
  have h := sub_mod_show W 0 x
  rw [Int.zero_emod, Int.zero_sub, Int.zero_sub] at h
  exact h

/-- A string and a bool are returned; nothing that was there before has changed. -/
def RetSB (w : World) (s : ByteArray) (ok : Bool) (e : Ending) (w' : World) : Prop := e = .returned (.tuple #[.string s, .bool ok]) ∧ Below w.heap.size w w'

set_option maxHeartbeats 800000 in
theorem AddColumns_c (W : Nat) (x y : Int) (w : World) (h1 : 1 ≤ W) (h12 : W ≤ 12) :
    Calls Try.prog 43 #[.string (showC W x), .string (showC W y)] w fun e w' => RetSB w (showC W (x + y)) true e w' := by
  obtain ⟨u, Hu⟩ : ∃ u, Hid (x % ten W = u) := ⟨_, hd rfl⟩
  obtain ⟨v, Hv⟩ : ∃ v, Hid (y % ten W = v) := ⟨_, hd rfl⟩
  have hu := mod_bd W x
  have hv := mod_bd W y
  rw [Hu.out] at hu
  rw [Hv.out] at hv
  have ht := ten_bd W h12
  obtain ⟨hu1, hu2⟩ := hu
  obtain ⟨hv1, hv2⟩ := hv
  obtain ⟨ht1, ht2⟩ := ht
  have hsz : Hid ((showC W x).size = W) := hd (showC_size W x)
  have Hs : Hid ((u + v) % ten W = (x + y) % ten W) := hd (by rw [← Hu.out, ← Hv.out, add_mod_show])
  go_enter Try.func43, Try.ntmps43
  go_wp2_with fail
  refine (alike_c W x y _ h1 h12).mono ?_
  rintro e w' ⟨rfl, rfl⟩
  go_wp2_with fail
  refine (ValueOf_c W x u _ h1 h12 Hu.out).mono ?_
  rintro e w' ⟨rfl, rfl⟩
  go_wp2_with fail
  refine (ValueOf_c W y v _ h1 h12 Hv.out).mono ?_
  rintro e w' ⟨rfl, rfl⟩
  go_wp2_with fail
  rw [hsz.out]
  refine (powerOfTen_any W _ h12).mono ?_
  rintro e w' ⟨rfl, rfl⟩
  go_wp2_with fail
  refine (modulo_any (u + v) (ten W) _ (by omega) ht2).mono ?_
  rintro e w' ⟨rfl, rfl⟩
  go_wp2_with fail
  try rw [hsz.out]
  refine (showNumber_c W _ (x + y) _ h12 Hs.out).mono ?_
  rintro e w' ⟨rfl, bb⟩
  go_wp2
  go_ret2
  exact ⟨rfl, bb⟩

set_option maxHeartbeats 800000 in
theorem SubtractColumns_c (W : Nat) (x y : Int) (w : World) (h1 : 1 ≤ W) (h12 : W ≤ 12) :
    Calls Try.prog 40 #[.string (showC W x), .string (showC W y)] w fun e w' => RetSB w (showC W (x - y)) true e w' := by
  obtain ⟨u, Hu⟩ : ∃ u, Hid (x % ten W = u) := ⟨_, hd rfl⟩
  obtain ⟨v, Hv⟩ : ∃ v, Hid (y % ten W = v) := ⟨_, hd rfl⟩
  have hu := mod_bd W x
  have hv := mod_bd W y
  rw [Hu.out] at hu
  rw [Hv.out] at hv
  have ht := ten_bd W h12
  obtain ⟨hu1, hu2⟩ := hu
  obtain ⟨hv1, hv2⟩ := hv
  obtain ⟨ht1, ht2⟩ := ht
  have hsz : Hid ((showC W x).size = W) := hd (showC_size W x)
  have Hs : Hid ((u - v) % ten W = (x - y) % ten W) := hd (by rw [← Hu.out, ← Hv.out, sub_mod_show])
  go_enter Try.func40, Try.ntmps40
  go_wp2_with fail
  refine (alike_c W x y _ h1 h12).mono ?_
  rintro e w' ⟨rfl, rfl⟩
  go_wp2_with fail
  refine (ValueOf_c W x u _ h1 h12 Hu.out).mono ?_
  rintro e w' ⟨rfl, rfl⟩
  go_wp2_with fail
  refine (ValueOf_c W y v _ h1 h12 Hv.out).mono ?_
  rintro e w' ⟨rfl, rfl⟩
  go_wp2_with fail
  rw [hsz.out]
  refine (powerOfTen_any W _ h12).mono ?_
  rintro e w' ⟨rfl, rfl⟩
  go_wp2_with fail
  refine (modulo_any (u - v) (ten W) _ (by omega) ht2).mono ?_
  rintro e w' ⟨rfl, rfl⟩
  go_wp2_with fail
  try rw [hsz.out]
  refine (showNumber_c W _ (x - y) _ h12 Hs.out).mono ?_
  rintro e w' ⟨rfl, bb⟩
  go_wp2
  go_ret2
  exact ⟨rfl, bb⟩

set_option maxHeartbeats 800000 in
theorem NegateColumn_c (W : Nat) (x : Int) (w : World) (h1 : 1 ≤ W) (h12 : W ≤ 12) :
    Calls Try.prog 42 #[.string (showC W x)] w fun e w' => RetSB w (showC W (-x)) true e w' := by
  obtain ⟨u, Hu⟩ : ∃ u, Hid (x % ten W = u) := ⟨_, hd rfl⟩
  have hu := mod_bd W x
  rw [Hu.out] at hu
  have ht := ten_bd W h12
  obtain ⟨hu1, hu2⟩ := hu
  obtain ⟨ht1, ht2⟩ := ht
  have hsz : Hid ((showC W x).size = W) := hd (showC_size W x)
  have Hs : Hid ((-u) % ten W = (-x) % ten W) := hd (by rw [← Hu.out, neg_mod_show])
  have Hcv := hd (colV_showC x h1 h12)
  go_enter Try.func42, Try.ntmps42
  go_wp2_with fail
  refine (colV_yes (showC W x) true _ (by rw [hsz.out]; omega) Hcv.out).mono ?_
  rintro e w' ⟨rfl, rfl⟩
  go_wp2_with fail
  refine (ValueOf_c W x u _ h1 h12 Hu.out).mono ?_
  rintro e w' ⟨rfl, rfl⟩
  go_wp2_with fail
  rw [hsz.out]
  refine (powerOfTen_any W _ h12).mono ?_
  rintro e w' ⟨rfl, rfl⟩
  go_wp2_with fail
  refine (modulo_any (-u) (ten W) _ (by omega) ht2).mono ?_
  rintro e w' ⟨rfl, rfl⟩
  go_wp2_with fail
  try rw [hsz.out]
  refine (showNumber_c W _ (-x) _ h12 Hs.out).mono ?_
  rintro e w' ⟨rfl, bb⟩
  go_wp2
  go_ret2
  exact ⟨rfl, bb⟩

set_option maxHeartbeats 800000 in
theorem SignedOf_c (W : Nat) (x : Int) (w : World) (h1 : 1 ≤ W) (h12 : W ≤ 12) :
    Calls Try.prog 118 #[.string (showC W x)] w fun e w' => e = .returned (.tuple #[.int .i64 (sgn W x), .bool true]) ∧ w = w' := by
  obtain ⟨u, Hu⟩ : ∃ u, Hid (x % ten W = u) := ⟨_, hd rfl⟩
  have hu := mod_bd W x
  rw [Hu.out] at hu
  have ht := ten_bd W h12
  obtain ⟨hu1, hu2⟩ := hu
  obtain ⟨ht1, ht2⟩ := ht
  have hsz : Hid ((showC W x).size = W) := hd (showC_size W x)
  have Hcv := hd (colV_showC x h1 h12)
  by_cases hc : u ≥ ten W / 2
  · have Hf : Hid (sgn W x = u - ten W) := hd (by rw [sgn, Hu.out, if_pos hc])
    go_enter Try.func118, Try.ntmps118
    go_wp2_with fail
    refine (colV_yes (showC W x) true _ (by rw [hsz.out]; omega) Hcv.out).mono ?_
    rintro e w' ⟨rfl, rfl⟩
    go_wp2_with fail
    rw [hsz.out]
    refine (powerOfTen_any W _ h12).mono ?_
    rintro e w' ⟨rfl, rfl⟩
    go_wp2_with fail
    refine (ValueOf_c W x u _ h1 h12 Hu.out).mono ?_
    rintro e w' ⟨rfl, rfl⟩
    go_wp2
    go_ret2
    rw [Hf.out]
    exact ⟨rfl, rfl⟩
  · have Hf : Hid (sgn W x = u) := hd (by rw [sgn, Hu.out, if_neg hc])
    go_enter Try.func118, Try.ntmps118
    go_wp2_with fail
    refine (colV_yes (showC W x) true _ (by rw [hsz.out]; omega) Hcv.out).mono ?_
    rintro e w' ⟨rfl, rfl⟩
    go_wp2_with fail
    rw [hsz.out]
    refine (powerOfTen_any W _ h12).mono ?_
    rintro e w' ⟨rfl, rfl⟩
    go_wp2_with fail
    refine (ValueOf_c W x u _ h1 h12 Hu.out).mono ?_
    rintro e w' ⟨rfl, rfl⟩
    go_wp2
    go_ret2
    rw [Hf.out]
    exact ⟨rfl, rfl⟩

theorem signed_c (W : Nat) (x : Int) (w : World) (h1 : 1 ≤ W) (h12 : W ≤ 12) :
    Calls Try.prog 108 #[.string (showC W x)] w fun e w' => e = .returned (.int .i64 (sgn W x)) ∧ w = w' := by
  go_enter Try.func108, Try.ntmps108
  go_wp2_with fail
  refine (SignedOf_c W x _ h1 h12).mono ?_
  rintro e w' ⟨rfl, rfl⟩
  go_wp2
  go_ret
  exact ⟨rfl, rfl⟩

end Go.Proofs.Ytkmblobfamhoiaa

/- Contracts of the program's functions on lists of columns: copies, turns. -/
namespace Go.Proofs.Ytkmblobfamhoiaa
open Go.RowKit
set_option maxRecDepth 4000

set_option maxHeartbeats 400000 in
theorem CloneS_any (A : Option Addr) (c : Nat) (cs : List ByteArray) (w : World) (h : SS w A cs) (hn : 0 < cs.length) (hl : cs.length ≤ 1048576) :
    Calls Try.prog 120 #[.slice A cs.length c] w fun e w' => RetG Value.string 9 w.heap.size w cs e w' := by
  obtain ⟨i0, hi, hz0, hz1, hz2⟩ := info_parts infoS
  obtain ⟨b, off, rfl, hb⟩ := h.nonempty hn
  have Hh := hd h
  clear h
  have qT : ∀ (w : World) (a : Option Addr) (n c n' c' : Nat), (binOp .eql 30 (.slice a n c) (.slice none n' c')).run Try.prog w = .ok (.bool a.isNone) w := fun w a n c n' c' => Lib.run_eql_slice_nil w _ _ a n c n' c' Try.underlying30
  go_enter Try.func120, Try.ntmps120
  have Hc := hd ((Hh.out.alloc (.cells #[] 9)).cells rfl)
  go_wp2_with (at_builtin; refine wpList_append_own _ rfl _ _ 30 rfl w.heap.size 9 i0 (.string ByteArray.empty) 1 16 Try.underlying30 hi hz0 hz1 hz2 rfl (by decide) _ 0 [] rfl (World.ownsRow_made w #[] 0 (Nat.le_refl _) (by simp) (by simp)) ⟨b, off, none⟩ cs.length c (cs.map Value.string) rfl (by simp) Hc.out (strs_one cs) (by unfold maxLen; omega) (by omega) (by simp) ?_; intro v1 w1 hown hgrow _)
  have hbel : Below w.heap.size w w1 := ((Below.refl _ _).alloc (Nat.le_refl _) _).grown (row := some w.heap.size) hgrow (by simp) (by simp)
  have hr : RetG Value.string 9 w.heap.size w cs (.returned v1) w1 := by
    simp only [Nat.zero_add, List.nil_append] at hown
    rcases hown.2 with ⟨_, h0⟩ | ⟨g, cap, cur, hv, h2⟩
    · omega
    · subst hv
      exact ⟨_, _, rfl, ⟨by omega, hown⟩, hbel⟩
  have Hr := hd hr
  clear hr hown hgrow hbel
  go_wp2
  go_ret
  exact Hr.out

theorem CloneS_n (n : Nat) (A : Option Addr) (c : Nat) (cs : List ByteArray) (w : World) (hz : cs.length = n) (h : SS w A cs) (hn : 0 < cs.length) (hl : cs.length ≤ 1048576) :
    Calls Try.prog 120 #[.slice A n c] w fun e w' => RetG Value.string 9 w.heap.size w cs e w' := by
  subst hz; exact CloneS_any A c cs w h hn hl

/-- The columns from the first ones of us and the others of vs. -/
def mixV (us vs : List Int) (k : Nat) : List Int := us.take k ++ vs.drop k
theorem mixV_zero (us vs : List Int) : mixV us vs 0 = vs := by simp [mixV]
theorem mixV_length {us vs : List Int} (h : us.length = vs.length) (k : Nat) : (mixV us vs k).length = vs.length := by
  simp [mixV]; omega
theorem mixV_full {us vs : List Int} (h : us.length = vs.length) {k : Nat} (hk : vs.length ≤ k) : mixV us vs k = us := by
  rw [mixV, List.drop_eq_nil_of_le hk, List.take_of_length_le (by omega), List.append_nil]
theorem mixV_set {us vs : List Int} (h : us.length = vs.length) {k : Nat} {x : Int} (hx : us[k]? = some x) : (mixV us vs k).set k x = mixV us vs (k + 1) := by
  obtain ⟨hk, rfl⟩ := List.getElem?_eq_some_iff.1 hx
  refine List.ext_getElem? fun i => ?_
  rw [List.getElem?_set]
  have hl := mixV_length h k
  by_cases hi : k = i
  · subst hi
    rw [if_pos rfl, if_pos (by omega), mixV, List.getElem?_append_left (by simp; omega), List.getElem?_take_of_lt (by omega), List.getElem?_eq_getElem hk]
  · rw [if_neg hi, mixV, mixV]
    by_cases hlt : i < k
    · rw [List.getElem?_append_left (by simp; omega), List.getElem?_append_left (by simp; omega), List.getElem?_take_of_lt (by omega), List.getElem?_take_of_lt (by omega)]
    · rw [List.getElem?_append_right (by simp; omega), List.getElem?_append_right (by simp; omega), List.getElem?_drop, List.getElem?_drop]
      simp only [List.length_take]
      congr 1
      omega
theorem mixV_same {us vs : List Int} (h : us.length = vs.length) {k : Nat} (hx : us[k]? = vs[k]?) (hk : k < vs.length) : mixV us vs (k + 1) = mixV us vs k := by
  have e : us[k]? = some us[k] := List.getElem?_eq_getElem (by omega)
  rw [← mixV_set h e]
  refine List.ext_getElem? fun i => ?_
  rw [List.getElem?_set]
  by_cases hi : k = i
  · subst hi
    rw [if_pos rfl, if_pos (by rw [mixV_length h]; exact hk), mixV, List.getElem?_append_right (by simp; omega), List.getElem?_drop]
    simp only [List.length_take]
    rw [show k + (k - min k us.length) = k by omega, ← hx, e]
  · rw [if_neg hi]

theorem eng_set (W : Nat) (vs : List Int) (k : Nat) (x : Int) : (eng W vs).set k (showC W x) = eng W (vs.set k x) := by simp [eng, List.map_set]

set_option maxHeartbeats 1600000 in
theorem turnedOnce_any (W : Nat) (vs : List Int) (A : Option Addr) (c n : Nat) (w : World) (h : SS w A (eng W vs)) (h1 : 1 ≤ W) (h12 : W ≤ 12) (hn : vs.length = n) (hn1 : 1 ≤ n) (hn7 : n ≤ 7) :
    Calls Try.prog 125 #[.slice A n c] w fun e w' => RetG Value.string 9 w.heap.size w (eng W (manyV vs 1)) e w' := by
  have Hh := hd h
  have Hel : Hid ((eng W vs).length = n) := hd (by rw [eng_length, hn])
  have Hml : Hid ((manyV vs 1).length = vs.length) := hd (manyV_length vs 1)
  have Hn := hd hn
  clear h hn
  go_enter Try.func125, Try.ntmps125
  go_wp2_with fail
  refine (CloneS_n n A c (eng W vs) _ Hel.out Hh.out (by rw [Hel.out]; omega) (by rw [Hel.out]; omega)).mono ?_
  rintro e w1 ⟨A1, c1, rfl, own1, b1⟩
  obtain ⟨g, hA1, hg1, hg2⟩ := own1.addr (by rw [Hel.out]; omega)
  subst hA1
  have Own1 := hd own1
  have Bel1 := hd b1
  rw [Hel.out]
  clear own1 b1
  go_wp2
  go_loopw [4] (fun i wr => ∃ k : Nat, k + 1 ≤ n ∧ i = .int .i64 k ∧ OwnS 9 w.heap.size wr (some ⟨g, 0, none⟩) c1 (eng W (mixV (manyV vs 1) vs k)) ∧ Below w.heap.size w wr)
    (fun i _ => n - (intOf i).toNat)
  case atStart => exact ⟨0, by omega, rfl, by rw [mixV_zero]; exact Own1.out, Bel1.out⟩
  case round =>
    clear Own1 Bel1
    obtain ⟨k, hk, rfl, own, bel⟩ := hrel
    have Own := hd own
    have Bel := hd bel
    clear own bel
    by_cases hlt : k + 1 < n
    · have hx : vs[k]? = some (vs.getD k 0) := by rw [List.getD_eq_getElem?_getD, List.getElem?_eq_getElem (by have := Hn.out; omega)]; rfl
      have hy : vs[k + 1]? = some (vs.getD (k + 1) 0) := by rw [List.getD_eq_getElem?_getD, List.getElem?_eq_getElem (by have := Hn.out; omega)]; rfl
      obtain ⟨x, Hx⟩ : ∃ x, Hid (vs[k]? = some x) := ⟨_, hd hx⟩
      obtain ⟨y, Hy⟩ : ∃ y, Hid (vs[k + 1]? = some y) := ⟨_, hd hy⟩
      clear hx hy
      obtain ⟨s1, b, off, hs1, rfl, hb, hc1⟩ := (Hh.out.below Bel.out).at_ (k := k) (by rw [Hel.out]; omega)
      obtain ⟨s2, b', off', hs2, he, hb', hc2⟩ := (Hh.out.below Bel.out).at_ (k := k + 1) (by rw [Hel.out]; omega)
      simp only [Option.some.injEq, Addr.mk.injEq, and_true] at he
      obtain ⟨rfl, rfl⟩ := he
      obtain rfl : s1 = showC W x := by rw [eng_at Hx.out] at hs1; injection hs1 with hs1; exact hs1.symm
      obtain rfl : s2 = showC W y := by rw [eng_at Hy.out] at hs2; injection hs2 with hs2; exact hs2.symm
      clear hs1 hs2
      have Hlx : Hid (k < (eng W (mixV (manyV vs 1) vs k)).length) := hd (by rw [eng_length, mixV_length Hml.out, Hn.out]; omega)
      have e1 : IntKind.i64.wrap ((k : Int) + 1) = (k : Int) + 1 := IntWalk.i64_in _ (by omega)
      have e2 : ((k : Int) + 1).toNat = k + 1 := by omega
      have e3 : (0 : Int) ≤ (k : Int) + 1 := by omega
      have e4 : (k : Int) + 1 < n := by omega
      have e5 : k < n := by omega
      go_wp2
      go_region_law ((go_simp; go_at_call 43; refine (AddColumns_c W x y _ h1 h12).mono ?_; rintro e w2 ⟨rfl, b2⟩; have Own2 := hd (Own.out.drew.below b2); have Bel2 := hd (Bel.out.drew.trans (b2.mono Bel.out.size)); obtain ⟨g', o, ho, hg', hco, hfo⟩ := Own2.out.at_ (k := k) Hlx.out; simp only [Option.some.injEq, Addr.mk.injEq, and_true] at hg'; subst hg'; clear b2 ho))
      all_goals
        clear e1 e2 e3 e4 e5
        have Own3 := hd (Own2.out.set k (showC W (x + y)))
        have Bel3 := hd (Bel2.out.setCell (p := ⟨g, k, none⟩) hg1 (.string (showC W (x + y))))
        have Hnx : Hid ((eng W (mixV (manyV vs 1) vs k)).set k (showC W (x + y)) = eng W (mixV (manyV vs 1) vs (k + 1))) := hd (by
          rw [eng_set, mixV_set Hml.out (manyV_one_at Hx.out Hy.out)])
        go_wp2
        go_roundw
        case rel => exact ⟨k + 1, by omega, by go_num, by rw [← Hnx.out]; exact Own3.out, Bel3.out⟩
        case measure => simp [intOf]; omega
    · have Hf : Hid (mixV (manyV vs 1) vs k = manyV vs 1) := hd (by
        have hn := Hn.out
        rw [← mixV_same Hml.out (manyV_last 1 (by omega)) (by omega)]
        exact mixV_full Hml.out (by omega))
      have Hl2 : Hid ((eng W (manyV vs 1)).length = n) := hd (by rw [eng_length, Hml.out, Hn.out])
      rw [Hf.out] at Own
      go_wp2
      go_ret
      exact RetG.own Own.out Hl2.out.symm Bel.out

end Go.Proofs.Ytkmblobfamhoiaa

/- Contracts of the program's functions on lists of columns: turns back, many turns, halves of turns. -/
namespace Go.Proofs.Ytkmblobfamhoiaa
open Go.RowKit
set_option maxRecDepth 4000

theorem mixV_back {us vs : List Int} (h : us.length = vs.length) {k : Nat} {x : Int} (hx : us[k]? = some x) : (mixV vs us (k + 1)).set k x = mixV vs us k := by
  obtain ⟨hk, rfl⟩ := List.getElem?_eq_some_iff.1 hx
  refine List.ext_getElem? fun i => ?_
  rw [List.getElem?_set]
  have hl := mixV_length h.symm (k + 1)
  by_cases hi : k = i
  · subst hi
    rw [if_pos rfl, if_pos (by omega), mixV, List.getElem?_append_right (by simp; omega), List.getElem?_drop]
    simp only [List.length_take]
    rw [show k + (k - min k vs.length) = k by omega, List.getElem?_eq_getElem hk]
  · rw [if_neg hi, mixV, mixV]
    by_cases hlt : i < k
    · rw [List.getElem?_append_left (by simp; omega), List.getElem?_append_left (by simp; omega), List.getElem?_take_of_lt (by omega), List.getElem?_take_of_lt (by omega)]
    · rw [List.getElem?_append_right (by simp; omega), List.getElem?_append_right (by simp; omega), List.getElem?_drop, List.getElem?_drop]
      simp only [List.length_take]
      congr 1
      omega

theorem mixV_at {us vs : List Int} {k i : Nat} (h : us.length = vs.length) (hi : k ≤ i) : (mixV vs us k)[i]? = us[i]? := by
  by_cases hk : k ≤ vs.length
  · rw [mixV, List.getElem?_append_right (by simp; omega), List.getElem?_drop]
    simp only [List.length_take]
    congr 1
    omega
  · rw [List.getElem?_eq_none (by rw [mixV_length h.symm]; omega), List.getElem?_eq_none (by omega)]

theorem mixV_start {us vs : List Int} (h : us.length = vs.length) {k : Nat} (hk : k + 1 = vs.length) (he : us[k]? = vs[k]?) : mixV vs us k = vs := by
  refine List.ext_getElem? fun i => ?_
  by_cases hi : k ≤ i
  · rw [mixV_at h hi]
    by_cases hik : i = k
    · rw [hik, he]
    · rw [List.getElem?_eq_none (by omega), List.getElem?_eq_none (by omega)]
  · rw [mixV, List.getElem?_append_left (by simp; omega), List.getElem?_take_of_lt (by omega)]

set_option maxHeartbeats 1600000 in
theorem turnedBack_any (W : Nat) (vs : List Int) (A : Option Addr) (c n : Nat) (w : World) (h : SS w A (eng W vs)) (h1 : 1 ≤ W) (h12 : W ≤ 12) (hn : vs.length = n) (hn1 : 1 ≤ n) (hn7 : n ≤ 7) :
    Calls Try.prog 143 #[.slice A n c] w fun e w' => RetG Value.string 9 w.heap.size w (eng W (manyV vs (-1))) e w' := by
  have Hh := hd h
  have Hel : Hid ((eng W vs).length = n) := hd (by rw [eng_length, hn])
  obtain ⟨us, Hus⟩ : ∃ us, Hid (manyV vs (-1) = us) := ⟨_, hd rfl⟩
  rw [Hus.out]
  have Hul : Hid (us.length = vs.length) := hd (by rw [← Hus.out, manyV_length])
  have Hn := hd hn
  clear h hn
  go_enter Try.func143, Try.ntmps143
  go_wp2_with fail
  refine (CloneS_n n A c (eng W vs) _ Hel.out Hh.out (by rw [Hel.out]; omega) (by rw [Hel.out]; omega)).mono ?_
  rintro e w1 ⟨A1, c1, rfl, own1, b1⟩
  obtain ⟨g, hA1, hg1, hg2⟩ := own1.addr (by rw [Hel.out]; omega)
  subst hA1
  have Own1 := hd own1
  have Bel1 := hd b1
  rw [Hel.out]
  clear own1 b1
  go_wp2
  go_loopw [4] (fun i wr => ∃ k : Nat, k + 1 ≤ n ∧ i = .int .i64 ((k : Int) - 1) ∧ OwnS 9 w.heap.size wr (some ⟨g, 0, none⟩) c1 (eng W (mixV vs us k)) ∧ Below w.heap.size w wr)
    (fun i _ => (intOf i + 1).toNat)
  case atStart => exact ⟨n - 1, by omega, by go_num, by
    rw [mixV_start Hul.out (by have := Hn.out; omega) (by rw [← Hus.out]; exact manyV_last (-1) (by have := Hn.out; omega))]; exact Own1.out, Bel1.out⟩
  case round =>
    clear Own1 Bel1
    obtain ⟨k, hk, rfl, own, bel⟩ := hrel
    have Own := hd own
    have Bel := hd bel
    clear own bel
    by_cases hk0 : 0 < k
    · obtain ⟨l, rfl⟩ : ∃ l, k = l + 1 := ⟨k - 1, by omega⟩
      have ei : ((l + 1 : Nat) : Int) - 1 = (l : Int) := by omega
      rw [ei]
      have hn := Hn.out
      obtain ⟨x, Hx⟩ : ∃ x, Hid (vs[l]? = some x) := ⟨vs[l], hd (List.getElem?_eq_getElem (by omega))⟩
      obtain ⟨y, Hy⟩ : ∃ y, Hid (us[l + 1]? = some y) := ⟨us[l + 1]'(by rw [Hul.out]; omega), hd (List.getElem?_eq_getElem (by rw [Hul.out]; omega))⟩
      have Hxy : Hid (us[l]? = some (x - y)) := hd (by
        have h2 := Hy.out
        rw [← Hus.out] at h2 ⊢
        exact manyV_back_at Hx.out h2)
      clear hn ei
      obtain ⟨s1, b, off, hs1, rfl, hb, hc1⟩ := (Hh.out.below Bel.out).at_ (k := l) (by rw [Hel.out]; omega)
      obtain rfl : s1 = showC W x := by rw [eng_at Hx.out] at hs1; injection hs1 with hs1; exact hs1.symm
      obtain ⟨g', s2, hs2, hg', hc2, hf2⟩ := Own.out.at_ (k := l + 1) (by rw [eng_length, mixV_length Hul.out.symm, Hul.out, Hn.out]; omega)
      simp only [Option.some.injEq, Addr.mk.injEq, and_true] at hg'
      subst hg'
      obtain rfl : s2 = showC W y := by
        rw [eng_at (vs := mixV vs us (l + 1)) (x := y) (by rw [mixV_at Hul.out (Nat.le_refl _)]; exact Hy.out)] at hs2
        injection hs2 with hs2; exact hs2.symm
      clear hs1 hs2
      have Hlx : Hid (l < (eng W (mixV vs us (l + 1))).length) := hd (by rw [eng_length, mixV_length Hul.out.symm, Hul.out, Hn.out]; omega)
      have e1 : IntKind.i64.wrap ((l : Int) + 1) = (l : Int) + 1 := IntWalk.i64_in _ (by omega)
      have e2 : ((l : Int) + 1).toNat = l + 1 := by omega
      have e3 : (0 : Int) ≤ (l : Int) + 1 := by omega
      have e4 : (l : Int) + 1 < n := by omega
      have e5 : l < n := by omega
      go_wp2
      go_region_law ((go_simp; go_at_call 40; refine (SubtractColumns_c W x y _ h1 h12).mono ?_; rintro e w2 ⟨rfl, b2⟩; have Own2 := hd (Own.out.drew.below b2); have Bel2 := hd (Bel.out.drew.trans (b2.mono Bel.out.size)); obtain ⟨g', o, ho, hg', hco, hfo⟩ := Own2.out.at_ (k := l) Hlx.out; simp only [Option.some.injEq, Addr.mk.injEq, and_true] at hg'; subst hg'; clear b2 ho))
      all_goals
        clear e1 e2 e3 e4 e5
        have Own3 := hd (Own2.out.set l (showC W (x - y)))
        have Bel3 := hd (Bel2.out.setCell (p := ⟨g, l, none⟩) hg1 (.string (showC W (x - y))))
        have Hnx : Hid ((eng W (mixV vs us (l + 1))).set l (showC W (x - y)) = eng W (mixV vs us l)) := hd (by
          rw [eng_set, mixV_back Hul.out Hxy.out])
        go_wp2
        go_roundw
        case rel => exact ⟨l, by omega, by go_num, by rw [← Hnx.out]; exact Own3.out, Bel3.out⟩
        case measure => simp [intOf] <;> omega
    · obtain rfl : k = 0 := by omega
      have Hf : Hid (mixV vs us 0 = us) := hd (by simp [mixV])
      have Hl2 : Hid ((eng W us).length = n) := hd (by rw [eng_length, Hul.out, Hn.out])
      rw [Hf.out] at Own
      go_wp2
      go_ret
      exact RetG.own Own.out Hl2.out.symm Bel.out

set_option maxHeartbeats 1600000 in
theorem turnedMany_any (W : Nat) (vs : List Int) (N : Int) (A : Option Addr) (c n : Nat) (w : World) (h : SS w A (eng W vs)) (h1 : 1 ≤ W) (h12 : W ≤ 12) (hn : vs.length = n) (hn1 : 1 ≤ n) (hn7 : n ≤ 7) (hN1 : -1000 ≤ N) (hN2 : N ≤ 1000) :
    Calls Try.prog 95 #[.slice A n c, .int .i64 N] w fun e w' => RetG Value.string 9 w.heap.size w (eng W (manyV vs N)) e w' := by
  have Hh := hd h
  have Hel : Hid ((eng W vs).length = n) := hd (by rw [eng_length, hn])
  have Hn := hd hn
  clear h hn
  go_enter Try.func95, Try.ntmps95
  go_wp2_with fail
  refine (CloneS_n n A c (eng W vs) _ Hel.out Hh.out (by rw [Hel.out]; omega) (by rw [Hel.out]; omega)).mono ?_
  rintro e w1 ⟨A1, c1, rfl, own1, b1⟩
  have Own1 : Hid (OwnS 9 w.heap.size w1 A1 c1 (eng W (manyV vs 0))) := hd (by rw [manyV_zero]; exact own1)
  have Bel1 := hd b1
  rw [Hel.out]
  clear own1 b1
  go_wp2
  go_loopw [1, 5] (fun m r wr => ∃ (k : Int) (A' : Option Addr) (c' : Nat), k ≤ 1000 ∧ (0 < N → 0 ≤ k) ∧ (N ≤ 0 → k = N) ∧ m = .int .i64 k ∧ r = .slice A' n c' ∧ OwnS 9 w.heap.size wr A' c' (eng W (manyV vs (N - k))) ∧ Below w.heap.size w wr)
    (fun m _ _ => (intOf m).toNat)
  case atStart => exact ⟨N, A1, c1, hN2, by omega, by omega, rfl, rfl, by rw [Int.sub_self]; exact Own1.out, Bel1.out⟩
  case round =>
    clear Own1 Bel1
    obtain ⟨k, A', c', hk, hk0, hk1, rfl, rfl, own, bel⟩ := hrel
    have Own := hd own
    have Bel := hd bel
    have Hk0 := hd hk0
    have Hk1 := hd hk1
    clear own bel hk0 hk1
    have hkN : -1000 ≤ k := by have h2 := Hk0.out; have h3 := Hk1.out; omega
    by_cases hpos : 0 < k
    · go_wp2_with fail
      refine (turnedOnce_any W (manyV vs (N - k)) A' c' n _ Own.out.sg h1 h12 (by rw [manyV_length]; exact Hn.out) hn1 hn7).mono ?_
      rintro e w2 ⟨A2, c2, rfl, own2, b2⟩
      have Hl2 : Hid ((eng W (manyV (manyV vs (N - k)) 1)).length = n) := hd (by rw [eng_length, manyV_length, manyV_length, Hn.out])
      have Own2 : Hid (OwnS 9 w.heap.size w2 A2 c2 (eng W (manyV vs (N - (k - 1))))) := hd (by
        have := own2.low Bel.out.size
        rwa [manyV_manyV, show 1 + (N - k) = N - (k - 1) by omega] at this)
      have Bel2 := hd (Bel.out.trans (b2.mono Bel.out.size))
      rw [Hl2.out]
      clear own2 b2
      go_wp2
      go_roundw
      case rel => exact ⟨k - 1, A2, c2, by omega, by omega, by have := Hk1.out; omega, rfl, rfl, Own2.out, Bel2.out⟩
      case measure => simp [intOf] <;> omega
    · have hk2 : N ≤ 0 ∨ k = 0 := by have h2 := Hk0.out; omega
      have hk3 : k ≤ 0 := by omega
      go_wp2
      go_loopw [1, 5] (fun m r wr => ∃ (l : Int) (A' : Option Addr) (c' : Nat), k ≤ l ∧ l ≤ 0 ∧ m = .int .i64 l ∧ r = .slice A' n c' ∧ OwnS 9 w.heap.size wr A' c' (eng W (manyV vs (N - l))) ∧ Below w.heap.size w wr)
        (fun m _ _ => (-intOf m).toNat)
      case atStart => exact ⟨k, A', c', by omega, hk3, rfl, rfl, Own.out, Bel.out⟩
      case round =>
        clear Own Bel
        obtain ⟨l, A', c', hl1, hl2, rfl, rfl, own, bel⟩ := hrel
        have Own := hd own
        have Bel := hd bel
        clear own bel
        by_cases hneg : l < 0
        · go_wp2_with fail
          refine (turnedBack_any W (manyV vs (N - l)) A' c' n _ Own.out.sg h1 h12 (by rw [manyV_length]; exact Hn.out) hn1 hn7).mono ?_
          rintro e w2 ⟨A2, c2, rfl, own2, b2⟩
          have Hl2 : Hid ((eng W (manyV (manyV vs (N - l)) (-1))).length = n) := hd (by rw [eng_length, manyV_length, manyV_length, Hn.out])
          have Own2 : Hid (OwnS 9 w.heap.size w2 A2 c2 (eng W (manyV vs (N - (l + 1))))) := hd (by
            have := own2.low Bel.out.size
            rwa [manyV_manyV, show -1 + (N - l) = N - (l + 1) by omega] at this)
          have Bel2 := hd (Bel.out.trans (b2.mono Bel.out.size))
          rw [Hl2.out]
          clear own2 b2
          go_wp2
          go_roundw
          case rel => exact ⟨l + 1, A2, c2, by omega, by omega, rfl, rfl, Own2.out, Bel2.out⟩
          case measure => simp [intOf] <;> omega
        · obtain rfl : l = 0 := by omega
          have Hl2 : Hid ((eng W (manyV vs N)).length = n) := hd (by rw [eng_length, manyV_length, Hn.out])
          rw [Int.sub_zero] at Own
          go_wp2
          go_ret
          exact RetG.own Own.out Hl2.out.symm Bel.out

set_option maxHeartbeats 1600000 in
theorem turnedHalf_any (W f : Nat) (vs : List Int) (A : Option Addr) (c n : Nat) (w : World) (h : SS w A (eng W vs)) (h1 : 1 ≤ W) (h12 : W ≤ 12) (hn : vs.length = n) (hn1 : 1 ≤ n) (hn7 : n ≤ 7) (hf : f ≤ 1) :
    Calls Try.prog 150 #[.slice A n c, .int .i64 f] w fun e w' => RetG Value.string 9 w.heap.size w (eng W (halfV f vs)) e w' := by
  have Hh := hd h
  have Hel : Hid ((eng W vs).length = n) := hd (by rw [eng_length, hn])
  obtain ⟨us, Hus⟩ : ∃ us, Hid (halfV f vs = us) := ⟨_, hd rfl⟩
  rw [Hus.out]
  have Hul : Hid (us.length = vs.length) := hd (by rw [← Hus.out, halfV_length])
  have Hn := hd hn
  have Hst : Hid (mixV us vs f = vs) := hd (by
    rcases Nat.eq_zero_or_pos f with h0 | h0
    · subst h0; exact mixV_zero _ _
    · obtain rfl : f = 1 := by omega
      rw [mixV_same Hul.out (by rw [← Hus.out, halfV_at (by omega), if_neg (by decide), List.getD_eq_getElem?_getD, List.getElem?_eq_getElem (by omega)]; rfl) (by omega)]
      exact mixV_zero _ _)
  clear h hn
  go_enter Try.func150, Try.ntmps150
  go_wp2_with fail
  refine (CloneS_n n A c (eng W vs) _ Hel.out Hh.out (by rw [Hel.out]; omega) (by rw [Hel.out]; omega)).mono ?_
  rintro e w1 ⟨A1, c1, rfl, own1, b1⟩
  obtain ⟨g, hA1, hg1, hg2⟩ := own1.addr (by rw [Hel.out]; omega)
  subst hA1
  have Own1 := hd own1
  have Bel1 := hd b1
  rw [Hel.out]
  clear own1 b1
  go_wp2
  go_loopw [6] (fun i wr => ∃ k : Nat, k ≤ n + 1 ∧ i = .int .i64 k ∧ k % 2 = f ∧ OwnS 9 w.heap.size wr (some ⟨g, 0, none⟩) c1 (eng W (mixV us vs k)) ∧ Below w.heap.size w wr)
    (fun i _ => n + 1 - (intOf i).toNat)
  case atStart => exact ⟨f, by omega, rfl, by omega, by rw [Hst.out]; exact Own1.out, Bel1.out⟩
  case round =>
    clear Own1 Bel1
    obtain ⟨k, hk, rfl, hkf, own, bel⟩ := hrel
    have Own := hd own
    have Bel := hd bel
    have Hkf := hd hkf
    clear own bel hkf
    by_cases hlt : k + 1 < n
    · have hn := Hn.out
      obtain ⟨x, Hx⟩ : ∃ x, Hid (vs[k]? = some x) := ⟨vs[k], hd (List.getElem?_eq_getElem (by omega))⟩
      obtain ⟨y, Hy⟩ : ∃ y, Hid (vs[k + 1]? = some y) := ⟨vs[k + 1], hd (List.getElem?_eq_getElem (by omega))⟩
      have Hxy : Hid (us[k]? = some (x + y)) := hd (by
        rw [← Hus.out, halfV_at (by omega), if_pos Hkf.out, getD_at Hx.out, getD_at Hy.out])
      have Hy2 : Hid (us[k + 1]? = vs[k + 1]?) := hd (by
        rw [← Hus.out, halfV_at (by omega), if_neg (by have := Hkf.out; omega), getD_at Hy.out, Hy.out])
      clear hn
      obtain ⟨s1, b, off, hs1, rfl, hb, hc1⟩ := (Hh.out.below Bel.out).at_ (k := k) (by rw [Hel.out]; omega)
      obtain ⟨s2, b', off', hs2, he, hb', hc2⟩ := (Hh.out.below Bel.out).at_ (k := k + 1) (by rw [Hel.out]; omega)
      simp only [Option.some.injEq, Addr.mk.injEq, and_true] at he
      obtain ⟨rfl, rfl⟩ := he
      obtain rfl : s1 = showC W x := by rw [eng_at Hx.out] at hs1; injection hs1 with hs1; exact hs1.symm
      obtain rfl : s2 = showC W y := by rw [eng_at Hy.out] at hs2; injection hs2 with hs2; exact hs2.symm
      clear hs1 hs2
      have Hlx : Hid (k < (eng W (mixV us vs k)).length) := hd (by rw [eng_length, mixV_length Hul.out, Hn.out]; omega)
      have e1 : IntKind.i64.wrap ((k : Int) + 1) = (k : Int) + 1 := IntWalk.i64_in _ (by omega)
      have e2 : ((k : Int) + 1).toNat = k + 1 := by omega
      have e3 : (0 : Int) ≤ (k : Int) + 1 := by omega
      have e4 : (k : Int) + 1 < n := by omega
      have e5 : k < n := by omega
      go_wp2
      go_region_law ((go_simp; go_at_call 43; refine (AddColumns_c W x y _ h1 h12).mono ?_; rintro e w2 ⟨rfl, b2⟩; have Own2 := hd (Own.out.drew.below b2); have Bel2 := hd (Bel.out.drew.trans (b2.mono Bel.out.size)); obtain ⟨g', o, ho, hg', hco, hfo⟩ := Own2.out.at_ (k := k) Hlx.out; simp only [Option.some.injEq, Addr.mk.injEq, and_true] at hg'; subst hg'; clear b2 ho))
      all_goals
        clear e1 e2 e3 e4 e5
        have Own3 := hd (Own2.out.set k (showC W (x + y)))
        have Bel3 := hd (Bel2.out.setCell (p := ⟨g, k, none⟩) hg1 (.string (showC W (x + y))))
        have Hnx : Hid ((eng W (mixV us vs k)).set k (showC W (x + y)) = eng W (mixV us vs (k + 2))) := hd (by
          rw [eng_set, mixV_set Hul.out Hxy.out, ← mixV_same Hul.out Hy2.out (by have := Hn.out; omega)])
        go_wp2
        go_roundw
        case rel => exact ⟨k + 2, by omega, by go_num, by have := Hkf.out; omega, by rw [← Hnx.out]; exact Own3.out, Bel3.out⟩
        case measure => simp [intOf] <;> omega
    · have Hf : Hid (mixV us vs k = us) := hd (by
        have hn := Hn.out
        by_cases hkn : k < n
        · rw [← mixV_same Hul.out (by rw [← Hus.out, halfV_at (by omega), if_pos Hkf.out, getD_none (i := k + 1) (by omega), Int.add_zero, List.getD_eq_getElem?_getD, List.getElem?_eq_getElem (by omega)]; rfl) (by omega)]
          exact mixV_full Hul.out (by omega)
        · exact mixV_full Hul.out (by omega))
      have Hl2 : Hid ((eng W us).length = n) := hd (by rw [eng_length, Hul.out, Hn.out])
      rw [Hf.out] at Own
      go_wp2
      go_ret
      exact RetG.own Own.out Hl2.out.symm Bel.out

end Go.Proofs.Ytkmblobfamhoiaa
