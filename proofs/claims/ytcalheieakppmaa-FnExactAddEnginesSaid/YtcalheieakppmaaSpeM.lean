/- Contracts of the reference's functions on columns. -/
import Derived.Test.YtcalheieakppmaaSpecA
import Derived.Test.YtcalheieakppmaaColO
namespace Go.Proofs.Ytcalheieakppmaa
open Go.RowKit
set_option maxRecDepth 4000

theorem l1Width_any (n : Int) (w : World) :
    Calls Try.prog 78 #[.int .i64 n] w fun e w' => e = .returned (.bool (wV n)) ∧ w = w' := by
  go_enter Try.func78, Try.ntmps78
  go_wp2_with (go_at_call 129; refine (l1In_any n 1 12 _).mono ?_; rintro e w' ⟨rfl, rfl⟩)
  go_ret
  exact ⟨rfl, rfl⟩

theorem l1Ten_any (k : Nat) (w : World) (hk : k ≤ 12) :
    Calls Try.prog 137 #[.int .i64 k] w fun e w' => e = .returned (.int .i64 (ten k)) ∧ w' = w := by
  go_enter Try.func137, Try.ntmps137
  go_wp2
  go_loop [3, 4] (fun r i => ∃ j : Nat, j ≤ k ∧ i = .int .i64 j ∧ r = .int .i64 (ten j)) (fun _ i => k - (intOf i).toNat)
  case atStart => exact ⟨0, by omega, rfl, rfl⟩
  case round =>
    obtain ⟨j, hj, rfl, rfl⟩ := hrel
    by_cases hlt : j < k
    · obtain ⟨hb1, hb2⟩ := ten_bd (j + 1) (by omega)
      have HS := hd (ten_succ j)
      rw [HS.out] at hb1 hb2
      go_wp2
      go_round
      case rel => exact ⟨j + 1, by omega, by go_num, by rw [HS.out]⟩
      case measure => simp [intOf] <;> omega
    · obtain rfl : j = k := by omega
      go_wp2
      go_ret
      exact ⟨rfl, rfl⟩

theorem l1Ten_w (k : Nat) (w : World) (hk : k ≤ 12) :
    Calls Try.prog 137 #[.int .i64 k] w fun e w' => e = .returned (.int .i64 (ten k)) ∧ w = w' :=
  (l1Ten_any k w hk).mono fun _ _ ⟨h1, h2⟩ => ⟨h1, h2.symm⟩

set_option maxHeartbeats 400000 in
theorem sColumnValid_any (s : ByteArray) (w : World) (hs : s.size ≤ 17592186044416) :
    Calls Try.prog 140 #[.string s] w fun e w' => e = .returned (.bool (colV s)) ∧ w' = w := by
  go_enter Try.func140, Try.ntmps140
  go_wp2
  go_loop [3] (fun i => ∃ k : Nat, k ≤ s.size ∧ i = .int .i64 k ∧ (s.data.toList.take k).all isDig = true) (fun i => s.size - (intOf i).toNat)
  case atStart => exact ⟨0, by omega, rfl, by simp⟩
  case round =>
    obtain ⟨k, hk, rfl, ht⟩ := hrel
    have Ht := hd ht
    clear ht
    by_cases hlt : k < s.size
    · have Hts := hd (str_take s k hlt)
      by_cases hd1 : 48 ≤ (s[k].toNat : Int)
      · by_cases hd2 : (s[k].toNat : Int) ≤ 57
        · have Hn : Hid ((s.data.toList.take (k + 1)).all isDig = true) := hd (by
            rw [Hts.out, List.all_append, Ht.out]
            simp [isDig_of, hd1, hd2])
          go_wp2
          go_round
          case rel => exact ⟨k + 1, by omega, by go_num, Hn.out⟩
          case measure => simp [intOf] <;> omega
        · have Hn : Hid (colV s = false) := hd (by
            rw [colV_wV, all_false_of isDig _ k _ (str_at s k hlt) (by simp [isDig_of, hd2])]; simp)
          go_wp2
          go_ret
          exact ⟨ret_bool Hn.out.symm, rfl⟩
      · have Hn : Hid (colV s = false) := hd (by
          rw [colV_wV, all_false_of isDig _ k _ (str_at s k hlt) (by simp [isDig_of, hd1])]; simp)
        go_wp2
        go_ret
        exact ⟨ret_bool Hn.out.symm, rfl⟩
    · have hke : k = s.size := by omega
      have Hn : Hid (wV s.size = colV s) := hd (by
        have := Ht.out
        rw [hke, List.take_of_length_le (by rw [str_len]; exact Nat.le_refl _)] at this
        rw [colV_wV, this]; simp)
      clear hke
      go_wp2_with fail
      refine (l1Width_any s.size _).mono ?_
      rintro e w' ⟨rfl, rfl⟩
      go_wp2
      go_ret
      exact ⟨ret_bool Hn.out, rfl⟩

theorem sColV (s : ByteArray) (b : Bool) (w : World) (hs : s.size ≤ 17592186044416) (hb : colV s = b) :
    Calls Try.prog 140 #[.string s] w fun e w' => e = .returned (.bool b) ∧ w' = w := by
  subst hb; exact sColumnValid_any s w hs

theorem tmod_twice (n m : Int) (hm : 0 < m) : (n.tmod m + m).tmod m = n % m := by
  have hb1 : -m < n.tmod m := Int.lt_tmod_of_pos _ hm
  have h := tmod_emod n m hm
  have h1 := Int.emod_nonneg n (by omega : m ≠ 0)
  have h2 := Int.emod_lt_of_pos n hm
  rw [Int.tmod_eq_emod_of_nonneg (by omega)]
  split at h
  · rw [h]; exact Int.emod_eq_of_lt h1 h2
  · rw [Int.add_emod_right, h]; exact Int.emod_eq_of_lt h1 h2

set_option maxHeartbeats 1600000 in
theorem l1Show_any (n : Int) (W : Nat) (w : World) (hW : W ≤ 12) :
    Calls Try.prog 141 #[.int .i64 n, .int .i64 W] w fun e w' => e = .returned (.string (showC W n)) ∧ Below w.heap.size w w' := by
  obtain ⟨i0, hi, hz0, hz1, hz2⟩ := info_parts infoB
  obtain ⟨ht1, ht2⟩ := ten_bd W hW
  have Htw := hd (tmod_twice n (ten W) (by omega))
  have hb1 : -ten W < n.tmod (ten W) := Int.lt_tmod_of_pos _ (by omega)
  have hb2 : n.tmod (ten W) < ten W := Int.tmod_lt_of_pos _ (by omega)
  obtain ⟨t, Ht⟩ : ∃ t, Hid (n.tmod (ten W) = t) := ⟨_, hd rfl⟩
  rw [Ht.out] at hb1 hb2 Htw
  have hm := mod_bd W n
  obtain ⟨v, hv⟩ := Int.eq_ofNat_of_zero_le hm.1
  have Hv : Hid (n % ten W = (v : Int)) := hd hv
  rw [Hv.out] at Htw
  have Hvl : Hid (v < 10 ^ W) := hd (by have := hm.2; rw [hv] at this; unfold ten at this; omega)
  have Hsh : Hid (showC W n = showC W v) := hd (by rw [← hv, showC_mod])
  have hvb : v < 1000000000000 := by
    have := hm.2
    omega
  clear hm hv
  rw [Hsh.out]
  have hT := Ht.out
  have hT2 := Htw.out
  have hm0 : ¬ ten W = 0 := by omega
  have hm1 : ¬ ten W = -1 := by omega
  have e0 : IntKind.i64.wrap (t + ten W) = t + ten W := IntWalk.i64_in _ (by omega)
  go_enter Try.func141, Try.ntmps141
  go_wp2
  go_quiet ((go_at_call 137; exact Calls.quiet_of_same (l1Ten_any W _ hW)))
  clear hT hT2 e0
  go_wp2_with (at_make; refine wpList_make_full _ rfl _ _ 48 rfl (w.drewN nq).heap.size 5 i0 (.int .u8 0) 1 Try.underlying48 hi hz0 hz1 .i64 .i64 _ _ W rfl rfl rfl rfl (by rw [hz2]; omega) (by unfold maxLen; omega) (Nat.le_refl _) ?_; intro w1 hown hgrow)
  have Hown0 : Hid (OwnB 5 w.heap.size w1 (some ⟨w.heap.size, 0, none⟩) W (List.replicate W 0)) := hd (OwnG.made 0 rfl hown (by omega))
  have Hbel0 : Hid (Below w.heap.size w w1) := hd ((below_drewN (Below.refl _ _) nq).grown hgrow (Nat.le_refl _) (by simp))
  clear hown hgrow
  go_loopw [0, 6] (fun x i wr => ∃ (j : Nat) (xs : List Int), j ≤ W ∧ i = .int .i64 ((W : Int) - 1 - j) ∧ x = .int .i64 ((v / 10 ^ j : Nat) : Int) ∧ xs.length = W ∧ xs.drop (W - j) = (tab W fun m => dgt W v m).drop (W - j) ∧ OwnB 5 w.heap.size wr (some ⟨w.heap.size, 0, none⟩) W xs ∧ Below w.heap.size w wr)
    (fun _ i _ => (intOf i + 1).toNat)
  case atStart => exact ⟨0, List.replicate W 0, by omega, by simp, by simp, by simp, by rw [List.drop_eq_nil_of_le (by simp), List.drop_eq_nil_of_le (by rw [tab_length]; omega)], Hown0.out, Hbel0.out⟩
  case round =>
    clear Hown0 Hbel0
    obtain ⟨j, xs, hj, rfl, rfl, hxl, hxd, hown, hbel⟩ := hrel
    have Hxl := hd hxl
    have Hxd := hd hxd
    have Hown := hd hown
    have Hbel := hd hbel
    clear hxl hxd hown hbel
    obtain ⟨q, Hq⟩ : ∃ q, Hid (v / 10 ^ j = q) := ⟨_, hd rfl⟩
    rw [Hq.out]
    have hqb : q ≤ v := by rw [← Hq.out]; exact Nat.div_le_self _ _
    by_cases hlt : j < W
    · obtain ⟨l, hl⟩ : ∃ l, l + 1 + j = W := ⟨W - 1 - j, by omega⟩
      have hlW : l < W := by omega
      have ei : (W : Int) - 1 - j = (l : Int) := by omega
      rw [ei]
      obtain ⟨g, x, hx, hg, hc, hf⟩ := Hown.out.at_ (k := l) (by rw [Hxl.out]; exact hlW)
      simp only [Option.some.injEq, Addr.mk.injEq, and_true] at hg
      subst hg
      have Hnx : Hid (v / 10 ^ (j + 1) = q / 10) := hd (by rw [Nat.pow_succ, ← Nat.div_div_eq_div_mul, Hq.out])
      have Hdg : Hid (dgt W v l = ((48 + q % 10 : Nat) : Int)) := hd (by rw [dgt, show W - 1 - l = j by omega, Hq.out])
      have e1 : IntKind.u8.wrap (48 + (q : Int) % 10) = 48 + (q : Int) % 10 := by
        simp only [IntKind.wrap, IntKind.bits, IntKind.signed]
        simp
        omega
      have hll : ¬ (l : Int) < 0 := by omega
      clear hx ei
      go_wp2
      go_roundw
      case rel =>
        refine ⟨j + 1, xs.set l (48 + (q : Int) % 10), by omega, by go_num, by rw [Hnx.out]; rfl, by rw [List.length_set]; exact Hxl.out, ?_, Hown.out.set l _, Hbel.out.setCell (Nat.le_refl _) _⟩
        exact show_step Hxl.out Hxd.out hlW (by omega) (by omega) Hdg.out
      case measure => simp [intOf] <;> omega
    · obtain rfl : j = W := by omega
      have Hx : Hid (xs = tab j fun m => dgt j v m) := hd (by
        have := Hxd.out
        rwa [Nat.sub_self, List.drop_zero, List.drop_zero] at this)
      have ei : (j : Int) - 1 - j = -1 := by omega
      rw [ei]
      have qS := run_str (src := 48) (dst := 9) (e := 5) Try.underlying48 Try.underlying5 Try.underlying9 Hown.out Hx.out Hvl.out
      go_wp2
      go_ret
      exact ⟨rfl, Hbel.out⟩

theorem l1Show_c (n x : Int) (W : Nat) (w : World) (hW : W ≤ 12) (hx : n % ten W = x % ten W) :
    Calls Try.prog 141 #[.int .i64 n, .int .i64 W] w fun e w' => e = .returned (.string (showC W x)) ∧ Below w.heap.size w w' := by
  rw [← showC_congr hx]; exact l1Show_any n W w hW

end Go.Proofs.Ytcalheieakppmaa
