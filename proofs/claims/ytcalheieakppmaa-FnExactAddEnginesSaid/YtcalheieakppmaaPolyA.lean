/- Contracts of the program's small functions on numbers and lists of numbers: each returns what the plain function of its name reckons, and changes nothing that was there before. -/
import Derived.Test.YtcalheieakppmaaProg
import Derived.Test.YtcalheieakppmaaPureB
import Derived.Test.YtcalheieakppmaaMem
import Derived.Deep.QuietTactic
import Derived.BigQuiet
namespace Go.Proofs.Ytcalheieakppmaa
open Go.RowKit
set_option maxRecDepth 4000

theorem infoI : (Try.prog.info? 3).map (fun i => (i.zero, i.size, i.bytes)) = some (some (.int .i64 0), 1, 8) := by kernel_rfl

theorem within_any (n b : Int) (w : World) (hb : 0 ≤ b) (hb' : b ≤ 1000000000000) :
    Calls Try.prog 128 #[.int .i64 n, .int .i64 b] w fun e w' => e = .returned (.bool (inB n b)) ∧ w = w' := by
  by_cases h1 : -b ≤ n
  · by_cases h2 : n ≤ b
    · have hfin : inB n b = true := inB_iff.2 ⟨h1, h2⟩
      have Hf := hd hfin
      clear hfin
      go_enter Try.func128, Try.ntmps128
      go_wp2
      go_ret
      exact ⟨by rw [Hf.out]; simp, rfl⟩
    · have hfin : inB n b = false := by simp [inB, h2]
      have Hf := hd hfin
      clear hfin
      go_enter Try.func128, Try.ntmps128
      go_wp2
      go_ret
      exact ⟨by rw [Hf.out]; simp, rfl⟩
  · have hfin : inB n b = false := by simp [inB, h1]
    have Hf := hd hfin
    clear hfin
    go_enter Try.func128, Try.ntmps128
    go_wp2
    go_ret
    exact ⟨by rw [Hf.out]; simp, rfl⟩

theorem all_take_succ {α : Type} (p : α → Bool) (zs : List α) (k : Nat) (x : α) (hx : zs[k]? = some x) (h : (zs.take k).all p = true) (h2 : p x = true) : (zs.take (k + 1)).all p = true := by
  obtain ⟨hk, rfl⟩ := List.getElem?_eq_some_iff.1 hx
  rw [List.take_succ_eq_append_getElem hk, List.all_append, h]
  simp [h2]
theorem all_false_of {α : Type} (p : α → Bool) (zs : List α) (k : Nat) (x : α) (hx : zs[k]? = some x) (h2 : p x = false) : zs.all p = false := by
  rw [List.all_eq_false]
  exact ⟨x, List.mem_of_getElem? hx, by simp [h2]⟩

theorem allWithin_any (A : Option Addr) (c : Nat) (zs : List Int) (b : Int) (w : World) (h : SI w A zs) (hb : 0 ≤ b) (hb' : b ≤ 1000000000000) :
    Calls Try.prog 148 #[.slice A zs.length c, .int .i64 b] w fun e w' => e = .returned (.bool (allB zs b)) ∧ w = w' := by
  have hl := h.len
  have Hh := hd h
  clear h
  go_enter Try.func148, Try.ntmps148
  go_wp2
  go_loop [9] (fun i => ∃ k : Nat, k ≤ zs.length ∧ i = .int .i64 k ∧ (zs.take k).all (fun x => inB x b) = true) (fun i => zs.length - (intOf i).toNat)
  case atStart => exact ⟨0, by omega, rfl, by simp⟩
  case round =>
    obtain ⟨k, hk, rfl, ht⟩ := hrel
    have Ht := hd ht
    clear ht
    by_cases hlt : k < zs.length
    · obtain ⟨x, b0, off, hx, rfl, hbw, hc⟩ := Hh.out.at_ hlt
      have Hx := hd hx
      clear hx
      by_cases hin : inB x b = true
      · go_wp2_with (go_at_call 128; refine (within_any x b _ hb hb').mono ?_; rintro e w' ⟨rfl, rfl⟩)
        go_round
        case rel => exact ⟨k + 1, by omega, by go_num, all_take_succ _ _ _ _ Hx.out Ht.out hin⟩
        case measure => simp [intOf]; omega
      · have hin' : inB x b = false := by simpa using hin
        clear hin
        have Hf := hd (all_false_of (fun x => inB x b) zs k x Hx.out hin')
        go_wp2_with (go_at_call 128; refine (within_any x b _ hb hb').mono ?_; rintro e w' ⟨rfl, rfl⟩)
        go_ret
        exact ⟨ret_bool Hf.out.symm, rfl⟩
    · have hke : k = zs.length := by omega
      have Hf : Hid (allB zs b = true) := hd (by have := Ht.out; rw [hke, List.take_length] at this; exact this)
      clear hke
      go_wp2
      go_ret
      exact ⟨ret_bool Hf.out.symm, rfl⟩

theorem PolyValid_any (A : Option Addr) (c : Nat) (p : List Int) (w : World) (h : SI w A p) :
    Calls Try.prog 138 #[.slice A p.length c] w fun e w' => e = .returned (.bool (validP p)) ∧ w = w' := by
  have hl := h.len
  have Hh := hd h
  clear h
  by_cases h1 : 1 ≤ p.length
  · by_cases h2 : p.length ≤ 7
    · have Hf : Hid (validP p = allB p 100000) := hd (by simp [validP, h1, h2])
      go_enter Try.func138, Try.ntmps138
      go_wp2_with (go_at_call 148; refine (allWithin_any A c p 100000 _ Hh.out (by decide) (by decide)).mono ?_; rintro e w' ⟨rfl, rfl⟩)
      go_ret
      exact ⟨ret_bool Hf.out.symm, rfl⟩
    · have Hf : Hid (validP p = false) := hd (by simp [validP, h2])
      go_enter Try.func138, Try.ntmps138
      go_wp2
      go_ret
      exact ⟨ret_bool Hf.out.symm, rfl⟩
  · have Hf : Hid (validP p = false) := hd (by simp [validP, h1])
    go_enter Try.func138, Try.ntmps138
    go_wp2
    go_ret
    exact ⟨ret_bool Hf.out.symm, rfl⟩

theorem choose_any (n : Int) (k : Nat) (w : World) (hn : -300 ≤ n) (hn' : n ≤ 300) (hk : k ≤ 6) :
    Calls Try.prog 157 #[.int .i64 n, .int .i64 k] w fun e w' => e = .returned (.int .i64 (chs n k)) ∧ w = w' := by
  go_enter Try.func157, Try.ntmps157
  go_wp2
  go_loop [5, 8] (fun r i => ∃ j : Nat, j ≤ k ∧ i = .int .i64 j ∧ r = .int .i64 (chs n j)) (fun _ i => k - (intOf i).toNat)
  case atStart => exact ⟨0, by omega, rfl, rfl⟩
  case round =>
    obtain ⟨j, hj, rfl, rfl⟩ := hrel
    by_cases hlt : j < k
    · have hm := chs_mul n hn hn' j (by omega)
      have ht := tdiv_bd _ _ j hm.1 hm.2
      have HS : Hid (chs n (j + 1) = (chs n j * (n - j)).tdiv (j + 1)) := rfl
      obtain ⟨hm1, hm2⟩ := hm
      obtain ⟨ht1, ht2⟩ := ht
      go_wp2
      go_round
      case rel => exact ⟨j + 1, by omega, by go_num, by rw [HS.out]⟩
      case measure => simp [intOf]; omega
    · obtain rfl : j = k := by omega
      go_wp2
      go_ret
      exact ⟨rfl, rfl⟩

/-- The bounds of a sum of a polynomial's value: each running sum and each product fits. -/
def ValOk (p : List Int) (n : Int) : Prop :=
  ∀ (k : Nat) (x : Int), p[k]? = some x → -1000000000000000000 ≤ x * chs n k ∧ x * chs n k ≤ 1000000000000000000 ∧ -4000000000000000000 ≤ val (p.take k) n ∧ val (p.take k) n ≤ 4000000000000000000

theorem ValOk.of {p : List Int} (hp : p.length ≤ 7) (hx : ∀ x ∈ p, -100000 ≤ x ∧ x ≤ 100000) {n : Int} (hn : -300 ≤ n) (hn' : n ≤ 300) : ValOk p n := by
  intro k x hk
  have hlt : k < p.length := (List.getElem?_eq_some_iff.1 hk).1
  have h1 := hx x (List.mem_of_getElem? hk)
  have h2 := chs_bd n hn hn' k (by omega)
  have h3 := chB_le k (by omega)
  have h4 := mul_bd x (chs n k) 100000 1064089721800 (by decide) h1.1 h1.2 (by omega) (by omega)
  have h5 := val_bd (p := p.take k) (by rw [List.length_take]; omega) (fun y hy => hx y (List.mem_of_mem_take hy)) n hn hn'
  omega

theorem valueAt_any (A : Option Addr) (c : Nat) (p : List Int) (n : Int) (w : World) (h : SI w A p) (hp : p.length ≤ 7) (hv : ValOk p n) (hn : -300 ≤ n) (hn' : n ≤ 300) :
    Calls Try.prog 139 #[.slice A p.length c, .int .i64 n] w fun e w' => e = .returned (.int .i64 (val p n)) ∧ w = w' := by
  have Hh := hd h
  have Hv := hd hv
  clear h hv
  go_enter Try.func139, Try.ntmps139
  go_wp2
  go_loop [5, 10] (fun s i => ∃ k : Nat, k ≤ p.length ∧ i = .int .i64 k ∧ s = .int .i64 (val (p.take k) n)) (fun _ i => p.length - (intOf i).toNat)
  case atStart => exact ⟨0, by omega, rfl, by simp [val, valF]⟩
  case round =>
    obtain ⟨k, hk, rfl, rfl⟩ := hrel
    by_cases hlt : k < p.length
    · obtain ⟨x, b0, off, hx, rfl, hbw, hc⟩ := Hh.out.at_ hlt
      obtain ⟨v1, v2, v3, v4⟩ := Hv.out k x hx
      have HS := hd (val_take p k x n hx)
      clear hx
      have hk6 : k ≤ 6 := by omega
      go_wp2_with (go_at_call 157; refine (choose_any n k _ hn hn' hk6).mono ?_; rintro e w' ⟨rfl, rfl⟩)
      go_round
      case rel => exact ⟨k + 1, by omega, by go_num, by rw [HS.out]⟩
      case measure => simp [intOf]; omega
    · have hke : k = p.length := by omega
      have Hf : Hid (val (p.take k) n = val p n) := hd (by rw [hke, List.take_length])
      clear hke
      go_wp2
      go_ret
      exact ⟨ret_int Hf.out, rfl⟩

theorem neighbors_any (A : Option Addr) (c : Nat) (zs : List Int) (w : World) (h : SI w A zs) (hB : ∀ x ∈ zs, -2000000000000000000 ≤ x ∧ x ≤ 2000000000000000000) :
    Calls Try.prog 110 #[.slice A zs.length c] w fun e w' => RetI 3 w.heap.size w (nbr zs) e w' := by
  obtain ⟨i0, hi, hz0, hz1, hz2⟩ := info_parts infoI
  have hl := h.len
  have Hh := hd h
  have HB := hd hB
  clear h hB
  by_cases h2 : zs.length < 2
  · have Hn := hd (nbr_short zs h2)
    go_enter Try.func110, Try.ntmps110
    go_wp2
    go_ret
    exact RetI.empty Hn.out (Below.refl _ _)
  · obtain ⟨m, hm⟩ : ∃ m, m + 1 = zs.length := ⟨zs.length - 1, by omega⟩
    have Hnl := hd (nbr_length zs)
    have Hm := hd hm
    clear hm
    have hm1 : 1 ≤ m := by have := Hm.out; omega
    have hm2 : m ≤ 17592186044416 := by have := Hm.out; omega
    go_enter Try.func110, Try.ntmps110
    go_wp2_with (at_make; refine wpList_make_full _ rfl _ _ 22 rfl w.heap.size 3 i0 (.int .i64 0) 1 Try.underlying22 hi hz0 hz1 .i64 .i64 _ _ m rfl rfl (by have := Hm.out; omega) (by have := Hm.out; omega) (by rw [hz2]; omega) (by unfold maxLen; omega) (Nat.le_refl _) ?_; intro w1 hown hgrow)
    have how0 := OW.made hown hm2
    have hbel0 : Below w.heap.size w w1 := (Below.refl _ _).grown hgrow (Nat.le_refl _) (by simp)
    clear hown hgrow
    go_loopw [14] (fun i wr => ∃ (k : Nat) (xs : List Int), k ≤ m ∧ i = .int .i64 k ∧ xs.take k = (nbr zs).take k ∧ OW 3 w.heap.size wr w.heap.size m xs ∧ Below w.heap.size w wr)
      (fun i _ => m - (intOf i).toNat)
    case atStart => exact ⟨0, List.replicate m 0, by omega, rfl, rfl, how0, hbel0⟩
    case round =>
      clear how0 hbel0
      obtain ⟨k, xs, hk, rfl, hx, how, hbel⟩ := hrel
      have Hx := hd hx
      clear hx
      by_cases hlt : k < m
      · have hlk : k < zs.length := by have := Hm.out; omega
        have hk1 : k + 1 < zs.length := by have := Hm.out; omega
        have hk1' : (k : Int) + 1 < zs.length := by omega
        have h' := Hh.out.below hbel
        obtain ⟨x, b, off, hxk, rfl, hbw, hc0⟩ := h'.at_ hlk
        obtain ⟨y, b', off', hyk, he, hbw', hc1⟩ := h'.at_ hk1
        simp only [Option.some.injEq, Addr.mk.injEq, and_true] at he
        obtain ⟨rfl, rfl⟩ := he
        have hbx := HB.out x (List.mem_of_getElem? hxk)
        have hby := HB.out y (List.mem_of_getElem? hyk)
        obtain ⟨o, ho, hco⟩ := how.cell hlt
        have hfo := how.frozen k
        have H2 := hd (nbr_at zs k x y hxk hyk)
        clear hxk hyk h' ho hk1
        go_wp2
        go_region
        go_wp2
        go_roundw
        case rel => exact ⟨k + 1, xs.set k (y - x), by omega, by go_num, take_set_succ (by have := how.1; omega) Hx.out H2.out, how.set k _, (hbel.setCell (Nat.le_refl _) _).drew⟩
        case measure => simp [intOf]; omega
      · obtain rfl : k = m := by omega
        have H4 : Hid (xs = nbr zs) := hd (by
          have h1 := Hx.out
          have h2 := Hnl.out
          have h3 := Hm.out
          rw [List.take_of_length_le (by have := how.1; omega), List.take_of_length_le (by omega)] at h1
          exact h1)
        go_wp2
        go_ret
        exact RetI.ow how H4.out hbel

end Go.Proofs.Ytcalheieakppmaa
