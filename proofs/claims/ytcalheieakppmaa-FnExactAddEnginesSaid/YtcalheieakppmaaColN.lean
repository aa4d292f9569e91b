/- Contracts of the program's functions on columns: shown numbers, values. -/
import Derived.Test.YtcalheieakppmaaColM
namespace Go.Proofs.Ytcalheieakppmaa
open Go.RowKit
set_option maxRecDepth 4000

theorem modulo_any (n m : Int) (w : World) (hm : 0 < m) (hm' : m ≤ 1000000000000) :
    Calls Try.prog 121 #[.int .i64 n, .int .i64 m] w fun e w' => e = .returned (.int .i64 (n % m)) ∧ w = w' := by
  have He := hd (tmod_emod n m hm)
  have hb1 : -m < n.tmod m := Int.lt_tmod_of_pos _ hm
  have hb2 : n.tmod m < m := Int.tmod_lt_of_pos _ hm
  have hm0 : ¬ m = 0 := by omega
  have hm1 : ¬ m = -1 := by omega
  obtain ⟨t, Ht⟩ : ∃ t, Hid (n.tmod m = t) := ⟨_, hd rfl⟩
  rw [Ht.out] at hb1 hb2
  have hT := Ht.out
  by_cases hn : t < 0
  · have Hf : Hid (t + m = n % m) := hd (by have := He.out; rw [Ht.out, if_pos hn] at this; exact this)
    go_enter Try.func121, Try.ntmps121
    go_wp2
    go_ret
    exact ⟨ret_int Hf.out, rfl⟩
  · have Hf : Hid (t = n % m) := hd (by have := He.out; rw [Ht.out, if_neg hn] at this; exact this)
    go_enter Try.func121, Try.ntmps121
    go_wp2
    go_ret
    exact ⟨ret_int Hf.out, rfl⟩

/-- The digit with the index m of the column of width W that shows v, as a number of its sign. -/
def dgt (W v m : Nat) : Int := ((48 + v / 10 ^ (W - 1 - m) % 10 : Nat) : Int)

theorem dig_at : ∀ (W v m : Nat), m < W → (dig W v)[m]? = some (UInt8.ofNat (48 + v / 10 ^ (W - 1 - m) % 10))
  | 0, v, m, h => absurd h (by omega)
  | W + 1, v, m, h => by
    rw [dig]
    by_cases hm : m < W
    · rw [List.getElem?_append_left (by rw [dig_length]; exact hm), dig_at W (v / 10) m hm]
      congr 2
      rw [Nat.div_div_eq_div_mul, show W + 1 - 1 - m = (W - 1 - m) + 1 by omega, Nat.pow_succ, Nat.mul_comm]
    · obtain rfl : m = W := by omega
      rw [List.getElem?_append_right (by rw [dig_length]; exact Nat.le_refl _), dig_length, Nat.sub_self]
      simp

theorem dig_nums (W v : Nat) : (dig W v).map (fun b => ((b.toNat : Nat) : Int)) = tab W fun m => dgt W v m := by
  refine List.ext_getElem? fun m => ?_
  rw [List.getElem?_map]
  by_cases hm : m < W
  · rw [dig_at W v m hm, tab_at _ hm, Option.map_some, digit_toNat]; rfl
  · rw [List.getElem?_eq_none (by rw [dig_length]; omega), List.getElem?_eq_none (by rw [tab_length]; omega)]; rfl

/-- 'string(b)' of a row of the call's own that holds the digits of v. -/
theorem run_str {src dst e : TypeId} {B : Nat} {E : TypeId} {w : World} {g c W v : Nat} {xs : List Int} (hs : Try.prog.underlying src = some (.slice e)) (he : Try.prog.underlying e = some (.int .u8)) (hd' : Try.prog.underlying dst = some .string)
    (h : OwnB E B w (some ⟨g, 0, none⟩) c xs) (hx : xs = tab W fun m => dgt W v m) (hv : v < 10 ^ W) :
    (convert src dst (.slice (some ⟨g, 0, none⟩) W c)).run Try.prog w = .ok (.string (showC W v)) w := by
  subst hx
  have hl : (dig W v).length = W := dig_length W v
  have := run_convert_bytes_back (P := Try.prog) w src dst e ⟨g, 0, none⟩ c (dig W v) hs he hd' (fun j hj => by
    rw [hl] at hj
    obtain ⟨g', x, hx, hg, hc, _⟩ := h.at_ (k := j) (by rw [tab_length]; exact hj)
    simp only [Option.some.injEq, Addr.mk.injEq, and_true] at hg
    subst hg
    rw [tab_at _ hj] at hx
    injection hx with hx
    have hadd : (⟨g, 0, none⟩ : Addr).add j = ⟨g, j, none⟩ := by unfold Addr.add; split <;> simp_all
    rw [hadd, hc, ← hx]
    have h2 := dig_at W v j hj
    obtain ⟨h3, h4⟩ := List.getElem?_eq_some_iff.1 h2
    rw [h4, digit_toNat]; rfl)
  rw [hl] at this
  rw [this]
  congr 2
  rw [showC]
  congr 2
  have : ((v : Int) % ten W).toNat = v := by
    rw [Int.emod_eq_of_lt (by omega) (by unfold ten; omega)]; rfl
  rw [this]

theorem show_step {W v j l q : Nat} {xs : List Int} (hxl : xs.length = W) (hxd : xs.drop (W - j) = (tab W fun m => dgt W v m).drop (W - j)) (hlW : l < W) (h1 : W - (j + 1) = l) (h2 : W - j = l + 1) (hdg : dgt W v l = ((48 + q % 10 : Nat) : Int)) :
    (xs.set l (48 + (q : Int) % 10)).drop (W - (j + 1)) = (tab W fun m => dgt W v m).drop (W - (j + 1)) := by
  have a : (xs.set l (48 + (q : Int) % 10)).drop l = (48 + (q : Int) % 10) :: (xs.set l (48 + (q : Int) % 10)).drop (l + 1) := by
    rw [List.drop_eq_getElem_cons (by rw [List.length_set, hxl]; exact hlW), List.getElem_set_self]
  have b : (tab W fun m => dgt W v m).drop l = dgt W v l :: (tab W fun m => dgt W v m).drop (l + 1) := by
    obtain ⟨h3, h4⟩ := List.getElem?_eq_some_iff.1 (tab_at (fun m => dgt W v m) hlW)
    rw [List.drop_eq_getElem_cons h3, h4]
  rw [h2] at hxd
  rw [h1, a, b, List.drop_set_of_lt (by omega), hxd, hdg]
  congr 1

set_option maxHeartbeats 1600000 in
theorem showNumber_any (v W : Nat) (w : World) (hW : W ≤ 12) (hv : v < 10 ^ W) :
    Calls Try.prog 120 #[.int .i64 v, .int .i64 W] w fun e w' => e = .returned (.string (showC W v)) ∧ Below w.heap.size w w' := by
  obtain ⟨i0, hi, hz0, hz1, hz2⟩ := info_parts infoB
  have hvb : v < 1000000000000 := by
    have := ten_bd W hW
    unfold ten at this
    omega
  have Hv := hd hv
  clear hv
  go_enter Try.func120, Try.ntmps120
  go_wp2_with (at_make; refine wpList_make_full _ rfl _ _ 48 rfl w.heap.size 5 i0 (.int .u8 0) 1 Try.underlying48 hi hz0 hz1 .i64 .i64 _ _ W rfl rfl rfl rfl (by rw [hz2]; omega) (by unfold maxLen; omega) (Nat.le_refl _) ?_; intro w1 hown hgrow)
  have Hown0 : Hid (OwnB 5 w.heap.size w1 (some ⟨w.heap.size, 0, none⟩) W (List.replicate W 0)) := hd (OwnG.made 0 rfl hown (by omega))
  have Hbel0 : Hid (Below w.heap.size w w1) := hd ((Below.refl _ _).grown hgrow (Nat.le_refl _) (by simp))
  clear hown hgrow
  go_loopw [0, 6] (fun x i wr => ∃ (j : Nat) (xs : List Int), j ≤ W ∧ i = .int .i64 ((W : Int) - 1 - j) ∧ x = .int .i64 ((v / 10 ^ j : Nat) : Int) ∧ xs.length = W ∧ xs.drop (W - j) = (tab W fun m => dgt W v m).drop (W - j) ∧ OwnB 5 w.heap.size wr (some ⟨w.heap.size, 0, none⟩) W xs ∧ Below w.heap.size w wr)
    (fun _ i _ => (intOf i + 1).toNat)
  case atStart => exact ⟨0, List.replicate W 0, by omega, by simp, by simp, by simp, by rw [List.drop_eq_nil_of_le (by simp), List.drop_eq_nil_of_le (by rw [tab_length]; omega)], Hown0.out, Hbel0.out⟩
  case round =>
    clear Hown0 Hbel0
    obtain ⟨j, xs, hj, rfl, rfl, hxl, hxd, hown, hbel⟩ := hrel
    have Hxl := hd hxl
    have Hxd := hd hxd
    have Hown := hd hown
    have Hbel := hd hbel
    clear hxl hxd hown hbel
    obtain ⟨q, Hq⟩ : ∃ q, Hid (v / 10 ^ j = q) := ⟨_, hd rfl⟩
    rw [Hq.out]
    have hqb : q ≤ v := by rw [← Hq.out]; exact Nat.div_le_self _ _
    by_cases hlt : j < W
    · obtain ⟨l, hl⟩ : ∃ l, l + 1 + j = W := ⟨W - 1 - j, by omega⟩
      have hlW : l < W := by omega
      have ei : (W : Int) - 1 - j = (l : Int) := by omega
      rw [ei]
      obtain ⟨g, x, hx, hg, hc, hf⟩ := Hown.out.at_ (k := l) (by rw [Hxl.out]; exact hlW)
      simp only [Option.some.injEq, Addr.mk.injEq, and_true] at hg
      subst hg
      have Hnx : Hid (v / 10 ^ (j + 1) = q / 10) := hd (by rw [Nat.pow_succ, ← Nat.div_div_eq_div_mul, Hq.out])
      have Hdg : Hid (dgt W v l = ((48 + q % 10 : Nat) : Int)) := hd (by rw [dgt, show W - 1 - l = j by omega, Hq.out])
      have e1 : IntKind.u8.wrap (48 + (q : Int) % 10) = 48 + (q : Int) % 10 := by
        simp only [IntKind.wrap, IntKind.bits, IntKind.signed]
        simp
        omega
      have hll : ¬ (l : Int) < 0 := by omega
      clear hx ei
      go_wp2
      go_roundw
      case rel =>
        refine ⟨j + 1, xs.set l (48 + (q : Int) % 10), by omega, by go_num, by rw [Hnx.out]; rfl, by rw [List.length_set]; exact Hxl.out, ?_, Hown.out.set l _, Hbel.out.setCell (Nat.le_refl _) _⟩
        exact show_step Hxl.out Hxd.out hlW (by omega) (by omega) Hdg.out
      case measure => simp [intOf] <;> omega
    · obtain rfl : j = W := by omega
      have Hx : Hid (xs = tab j fun m => dgt j v m) := hd (by
        have := Hxd.out
        rwa [Nat.sub_self, List.drop_zero, List.drop_zero] at this)
      have ei : (j : Int) - 1 - j = -1 := by omega
      rw [ei]
      have qS := run_str (src := 48) (dst := 9) (e := 5) Try.underlying48 Try.underlying5 Try.underlying9 Hown.out Hx.out Hv.out
      go_wp2
      go_ret
      exact ⟨rfl, Hbel.out⟩

end Go.Proofs.Ytcalheieakppmaa
