/- Contracts of the program's functions on columns: values, sums, differences. -/
import Derived.Test.YtcalheieakppmaaColN
import Derived.Test.YtcalheieakppmaaColC
namespace Go.Proofs.Ytcalheieakppmaa
open Go.RowKit
set_option maxRecDepth 4000

theorem colV_yes (s : ByteArray) (b : Bool) (w : World) (hs : s.size ≤ 17592186044416) (hb : colV s = b) :
    Calls Try.prog 151 #[.string s] w fun e w' => e = .returned (.bool b) ∧ w = w' := by
  subst hb; exact ColumnValid_any s w hs

theorem dval_take (s : ByteArray) (k : Nat) (h : k < s.size) : dval (s.data.toList.take (k + 1)) = 10 * dval (s.data.toList.take k) + ((s[k].toNat : Int) - 48) := by
  rw [str_take s k h, dval_snoc]

set_option maxHeartbeats 400000 in
theorem ValueOf_yes (s : ByteArray) (w : World) (hv : colV s = true) :
    Calls Try.prog 119 #[.string s] w fun e w' => e = .returned (.int .i64 (cval s)) ∧ w = w' := by
  obtain ⟨⟨h1, h12⟩, hdg⟩ := colV_iff.1 hv
  have Hdg := hd hdg
  have Hv := hd hv
  clear hv hdg
  go_enter Try.func119, Try.ntmps119
  go_wp2_with (go_at_call 151; refine (colV_yes s true _ (by omega) Hv.out).mono ?_; rintro e w' ⟨rfl, rfl⟩)
  go_loop [3, 10] (fun x i => ∃ k : Nat, k ≤ s.size ∧ i = .int .i64 k ∧ x = .int .i64 (dval (s.data.toList.take k))) (fun _ i => s.size - (intOf i).toNat)
  case atStart => exact ⟨0, by omega, rfl, by simp [dval]⟩
  case round =>
    obtain ⟨k, hk, rfl, rfl⟩ := hrel
    obtain ⟨x, Hx⟩ : ∃ x, Hid (dval (s.data.toList.take k) = x) := ⟨_, hd rfl⟩
    rw [Hx.out]
    have hb : 0 ≤ x ∧ x ≤ 1000000000000 := by
      have h2 := dval_nonneg (s.data.toList.take k) (by
        rw [List.all_eq_true]
        intro b hb
        exact List.all_eq_true.1 Hdg.out b (List.mem_of_mem_take hb))
      rw [Hx.out, List.length_take, str_len, Nat.min_eq_left hk] at h2
      have h3 := ten_bd k (by omega)
      unfold ten at h3
      omega
    obtain ⟨hb1, hb2⟩ := hb
    by_cases hlt : k < s.size
    · have HS := hd (dval_take s k hlt)
      rw [Hx.out] at HS
      have hdk : 48 ≤ (s[k].toNat : Int) ∧ (s[k].toNat : Int) ≤ 57 := by
        have := List.all_eq_true.1 Hdg.out _ (List.mem_of_getElem? (str_at s k hlt))
        rw [isDig_of] at this
        simpa using this
      obtain ⟨hd1, hd2⟩ := hdk
      have e1 : IntKind.u8.wrap ((s[k].toNat : Int) - 48) = (s[k].toNat : Int) - 48 := by
        simp only [IntKind.wrap, IntKind.bits, IntKind.signed]
        simp
        omega
      go_wp2
      go_round
      case rel => exact ⟨k + 1, by omega, by go_num, by rw [HS.out]; go_num⟩
      case measure => simp [intOf]; omega
    · have Hf : Hid (x = cval s) := hd (by
        have h2 := Hx.out
        rw [List.take_of_length_le (by rw [str_len]; omega)] at h2
        exact h2.symm)
      go_wp2
      go_ret
      exact ⟨ret_int Hf.out, rfl⟩

theorem ValueOf_c (W : Nat) (x v : Int) (w : World) (h1 : 1 ≤ W) (h12 : W ≤ 12) (hv : x % ten W = v) :
    Calls Try.prog 119 #[.string (showC W x)] w fun e w' => e = .returned (.int .i64 v) ∧ w = w' := by
  subst hv
  have := ValueOf_yes (showC W x) w (colV_showC x h1 h12)
  rwa [cval_showC] at this

/-- Both are columns of the same width. -/
def alikeB (a b : ByteArray) : Bool := colV a && (colV b && decide (a.size = b.size))

theorem alike_any (a b : ByteArray) (w : World) (ha : a.size ≤ 17592186044416) (hb : b.size ≤ 17592186044416) :
    Calls Try.prog 118 #[.string a, .string b] w fun e w' => e = .returned (.bool (alikeB a b)) ∧ w = w' := by
  cases h1 : colV a
  · have Hf : Hid (alikeB a b = false) := hd (by simp [alikeB, h1])
    go_enter Try.func118, Try.ntmps118
    go_wp2_with fail
    refine (colV_yes a false _ ha h1).mono ?_
    rintro e w' ⟨rfl, rfl⟩
    go_wp2
    go_ret
    exact ⟨ret_bool Hf.out.symm, rfl⟩
  cases h2 : colV b
  · have Hf : Hid (alikeB a b = false) := hd (by simp [alikeB, h2])
    go_enter Try.func118, Try.ntmps118
    go_wp2_with fail
    refine (colV_yes a true _ ha h1).mono ?_
    rintro e w' ⟨rfl, rfl⟩
    go_wp2_with fail
    refine (colV_yes b false _ hb h2).mono ?_
    rintro e w' ⟨rfl, rfl⟩
    go_wp2
    go_ret
    exact ⟨ret_bool Hf.out.symm, rfl⟩
  · have Hf : Hid (alikeB a b = decide (a.size = b.size)) := hd (by simp [alikeB, h1, h2])
    go_enter Try.func118, Try.ntmps118
    go_wp2_with fail
    refine (colV_yes a true _ ha h1).mono ?_
    rintro e w' ⟨rfl, rfl⟩
    go_wp2_with fail
    refine (colV_yes b true _ hb h2).mono ?_
    rintro e w' ⟨rfl, rfl⟩
    by_cases hsz : a.size = b.size
    · have e1 : ((a.size : Int) == b.size) = true := by simp [hsz]
      have Hg : Hid (alikeB a b = true) := hd (by rw [Hf.out]; simp [hsz])
      clear hsz
      go_wp2
      go_ret
      exact ⟨ret_bool Hg.out.symm, rfl⟩
    · have e1 : ((a.size : Int) == b.size) = false := by simp; omega
      have Hg : Hid (alikeB a b = false) := hd (by rw [Hf.out]; simp [hsz])
      clear hsz
      go_wp2
      go_ret
      exact ⟨ret_bool Hg.out.symm, rfl⟩

theorem alike_b (a b : ByteArray) (t : Bool) (w : World) (ha : a.size ≤ 17592186044416) (hb : b.size ≤ 17592186044416) (ht : alikeB a b = t) :
    Calls Try.prog 118 #[.string a, .string b] w fun e w' => e = .returned (.bool t) ∧ w = w' := by
  subst ht; exact alike_any a b w ha hb

theorem alike_c (W : Nat) (x y : Int) (w : World) (h1 : 1 ≤ W) (h12 : W ≤ 12) :
    Calls Try.prog 118 #[.string (showC W x), .string (showC W y)] w fun e w' => e = .returned (.bool true) ∧ w = w' := by
  have := alike_any (showC W x) (showC W y) w (by rw [showC_size]; omega) (by rw [showC_size]; omega)
  rwa [show alikeB (showC W x) (showC W y) = true by simp [alikeB, colV_showC _ h1 h12, showC_size]] at this

theorem showNumber_c (W : Nat) (v x : Int) (w : World) (h12 : W ≤ 12) (hv : v = x % ten W) :
    Calls Try.prog 120 #[.int .i64 v, .int .i64 W] w fun e w' => e = .returned (.string (showC W x)) ∧ Below w.heap.size w w' := by
  subst hv
  have hb := mod_bd W x
  obtain ⟨n, hn⟩ := Int.eq_ofNat_of_zero_le hb.1
  have hlt : ((n : Nat) : Int) < ((10 ^ W : Nat) : Int) := by rw [← hn]; exact hb.2
  have := showNumber_any n W w h12 (Int.ofNat_lt.1 hlt)
  rw [← hn, showC_mod] at this
  exact this

theorem add_mod_show (W : Nat) (x y : Int) : (x % ten W + y % ten W) % ten W = (x + y) % ten W := (Int.add_emod x y _).symm
theorem sub_mod_show (W : Nat) (x y : Int) : (x % ten W - y % ten W) % ten W = (x - y) % ten W := (Int.sub_emod x y _).symm
theorem neg_mod_show (W : Nat) (x : Int) : (-(x % ten W)) % ten W = (-x) % ten W := by
  have h := sub_mod_show W 0 x
  rw [Int.zero_emod, Int.zero_sub, Int.zero_sub] at h
  exact h

/-- A string and a bool are returned; nothing that was there before has changed. -/
def RetSB (w : World) (s : ByteArray) (ok : Bool) (e : Ending) (w' : World) : Prop := e = .returned (.tuple #[.string s, .bool ok]) ∧ Below w.heap.size w w'

set_option maxHeartbeats 800000 in
theorem AddColumns_c (W : Nat) (x y : Int) (w : World) (h1 : 1 ≤ W) (h12 : W ≤ 12) :
    Calls Try.prog 56 #[.string (showC W x), .string (showC W y)] w fun e w' => RetSB w (showC W (x + y)) true e w' := by
  obtain ⟨u, Hu⟩ : ∃ u, Hid (x % ten W = u) := ⟨_, hd rfl⟩
  obtain ⟨v, Hv⟩ : ∃ v, Hid (y % ten W = v) := ⟨_, hd rfl⟩
  have hu := mod_bd W x
  have hv := mod_bd W y
  rw [Hu.out] at hu
  rw [Hv.out] at hv
  have ht := ten_bd W h12
  obtain ⟨hu1, hu2⟩ := hu
  obtain ⟨hv1, hv2⟩ := hv
  obtain ⟨ht1, ht2⟩ := ht
  have hsz : Hid ((showC W x).size = W) := hd (showC_size W x)
  have Hs : Hid ((u + v) % ten W = (x + y) % ten W) := hd (by rw [← Hu.out, ← Hv.out, add_mod_show])
  go_enter Try.func56, Try.ntmps56
  go_wp2_with fail
  refine (alike_c W x y _ h1 h12).mono ?_
  rintro e w' ⟨rfl, rfl⟩
  go_wp2_with fail
  refine (ValueOf_c W x u _ h1 h12 Hu.out).mono ?_
  rintro e w' ⟨rfl, rfl⟩
  go_wp2_with fail
  refine (ValueOf_c W y v _ h1 h12 Hv.out).mono ?_
  rintro e w' ⟨rfl, rfl⟩
  go_wp2_with fail
  rw [hsz.out]
  refine (powerOfTen_any W _ h12).mono ?_
  rintro e w' ⟨rfl, rfl⟩
  go_wp2_with fail
  refine (modulo_any (u + v) (ten W) _ (by omega) ht2).mono ?_
  rintro e w' ⟨rfl, rfl⟩
  go_wp2_with fail
  try rw [hsz.out]
  refine (showNumber_c W _ (x + y) _ h12 Hs.out).mono ?_
  rintro e w' ⟨rfl, bb⟩
  go_wp2
  go_ret2
  exact ⟨rfl, bb⟩

set_option maxHeartbeats 800000 in
theorem SubtractColumns_c (W : Nat) (x y : Int) (w : World) (h1 : 1 ≤ W) (h12 : W ≤ 12) :
    Calls Try.prog 152 #[.string (showC W x), .string (showC W y)] w fun e w' => RetSB w (showC W (x - y)) true e w' := by
  obtain ⟨u, Hu⟩ : ∃ u, Hid (x % ten W = u) := ⟨_, hd rfl⟩
  obtain ⟨v, Hv⟩ : ∃ v, Hid (y % ten W = v) := ⟨_, hd rfl⟩
  have hu := mod_bd W x
  have hv := mod_bd W y
  rw [Hu.out] at hu
  rw [Hv.out] at hv
  have ht := ten_bd W h12
  obtain ⟨hu1, hu2⟩ := hu
  obtain ⟨hv1, hv2⟩ := hv
  obtain ⟨ht1, ht2⟩ := ht
  have hsz : Hid ((showC W x).size = W) := hd (showC_size W x)
  have Hs : Hid ((u - v) % ten W = (x - y) % ten W) := hd (by rw [← Hu.out, ← Hv.out, sub_mod_show])
  go_enter Try.func152, Try.ntmps152
  go_wp2_with fail
  refine (alike_c W x y _ h1 h12).mono ?_
  rintro e w' ⟨rfl, rfl⟩
  go_wp2_with fail
  refine (ValueOf_c W x u _ h1 h12 Hu.out).mono ?_
  rintro e w' ⟨rfl, rfl⟩
  go_wp2_with fail
  refine (ValueOf_c W y v _ h1 h12 Hv.out).mono ?_
  rintro e w' ⟨rfl, rfl⟩
  go_wp2_with fail
  rw [hsz.out]
  refine (powerOfTen_any W _ h12).mono ?_
  rintro e w' ⟨rfl, rfl⟩
  go_wp2_with fail
  refine (modulo_any (u - v) (ten W) _ (by omega) ht2).mono ?_
  rintro e w' ⟨rfl, rfl⟩
  go_wp2_with fail
  try rw [hsz.out]
  refine (showNumber_c W _ (x - y) _ h12 Hs.out).mono ?_
  rintro e w' ⟨rfl, bb⟩
  go_wp2
  go_ret2
  exact ⟨rfl, bb⟩

set_option maxHeartbeats 800000 in
theorem SignedOf_c (W : Nat) (x : Int) (w : World) (h1 : 1 ≤ W) (h12 : W ≤ 12) :
    Calls Try.prog 144 #[.string (showC W x)] w fun e w' => e = .returned (.tuple #[.int .i64 (sgn W x), .bool true]) ∧ w = w' := by
  obtain ⟨u, Hu⟩ : ∃ u, Hid (x % ten W = u) := ⟨_, hd rfl⟩
  have hu := mod_bd W x
  rw [Hu.out] at hu
  have ht := ten_bd W h12
  obtain ⟨hu1, hu2⟩ := hu
  obtain ⟨ht1, ht2⟩ := ht
  have hsz : Hid ((showC W x).size = W) := hd (showC_size W x)
  have Hcv := hd (colV_showC x h1 h12)
  by_cases hc : u ≥ ten W / 2
  · have Hf : Hid (sgn W x = u - ten W) := hd (by rw [sgn, Hu.out, if_pos hc])
    go_enter Try.func144, Try.ntmps144
    go_wp2_with fail
    refine (colV_yes (showC W x) true _ (by rw [hsz.out]; omega) Hcv.out).mono ?_
    rintro e w' ⟨rfl, rfl⟩
    go_wp2_with fail
    rw [hsz.out]
    refine (powerOfTen_any W _ h12).mono ?_
    rintro e w' ⟨rfl, rfl⟩
    go_wp2_with fail
    refine (ValueOf_c W x u _ h1 h12 Hu.out).mono ?_
    rintro e w' ⟨rfl, rfl⟩
    go_wp2
    go_ret2
    rw [Hf.out]
    exact ⟨rfl, rfl⟩
  · have Hf : Hid (sgn W x = u) := hd (by rw [sgn, Hu.out, if_neg hc])
    go_enter Try.func144, Try.ntmps144
    go_wp2_with fail
    refine (colV_yes (showC W x) true _ (by rw [hsz.out]; omega) Hcv.out).mono ?_
    rintro e w' ⟨rfl, rfl⟩
    go_wp2_with fail
    rw [hsz.out]
    refine (powerOfTen_any W _ h12).mono ?_
    rintro e w' ⟨rfl, rfl⟩
    go_wp2_with fail
    refine (ValueOf_c W x u _ h1 h12 Hu.out).mono ?_
    rintro e w' ⟨rfl, rfl⟩
    go_wp2
    go_ret2
    rw [Hf.out]
    exact ⟨rfl, rfl⟩

theorem signed_c (W : Nat) (x : Int) (w : World) (h1 : 1 ≤ W) (h12 : W ≤ 12) :
    Calls Try.prog 93 #[.string (showC W x)] w fun e w' => e = .returned (.int .i64 (sgn W x)) ∧ w = w' := by
  go_enter Try.func93, Try.ntmps93
  go_wp2_with fail
  refine (SignedOf_c W x _ h1 h12).mono ?_
  rintro e w' ⟨rfl, rfl⟩
  go_wp2
  go_ret
  exact ⟨rfl, rfl⟩

end Go.Proofs.Ytcalheieakppmaa
