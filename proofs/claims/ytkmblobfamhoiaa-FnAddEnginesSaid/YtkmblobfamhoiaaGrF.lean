/- Merged out of the texts SpecA SpecB SpecC. -/
import Derived.Test.YtkmblobfamhoiaaProg
import Derived.Test.YtkmblobfamhoiaaGrA
import Derived.Test.YtkmblobfamhoiaaMem
import Derived.Test.YtkmblobfamhoiaaGrC
import Derived.StillTailTactics
import Derived.Deep.RegionLaw
/- Contracts of the reference's small functions on numbers and lists of numbers. -/
namespace Go.Proofs.Ytkmblobfamhoiaa
open Go.RowKit
set_option maxRecDepth 4000

def in2 (n lo hi : Int) : Bool := decide (lo ≤ n) && decide (n ≤ hi)

theorem l1In_any (n lo hi : Int) (w : World) :
    Calls Try.prog 96 #[.int .i64 n, .int .i64 lo, .int .i64 hi] w fun e w' => e = .returned (.bool (in2 n lo hi)) ∧ w = w' := by
  by_cases h1 : lo ≤ n
  · by_cases h2 : n ≤ hi
    · have Hf : Hid (in2 n lo hi = true) := hd (by simp [in2, h1, h2])
      go_enter Try.func96, Try.ntmps96
      go_wp2
      go_ret
      exact ⟨ret_bool Hf.out.symm, rfl⟩
    · have Hf : Hid (in2 n lo hi = false) := hd (by simp [in2, h2])
      go_enter Try.func96, Try.ntmps96
      go_wp2
      go_ret
      exact ⟨ret_bool Hf.out.symm, rfl⟩
  · have Hf : Hid (in2 n lo hi = false) := hd (by simp [in2, h1])
    go_enter Try.func96, Try.ntmps96
    go_wp2
    go_ret
    exact ⟨ret_bool Hf.out.symm, rfl⟩

theorem sPolyValid_any (A : Option Addr) (c : Nat) (p : List Int) (w : World) (h : SI w A p) :
    Calls Try.prog 127 #[.slice A p.length c] w fun e w' => e = .returned (.bool (validP p)) ∧ w = w' := by
  have hl := h.len
  have Hh := hd h
  clear h
  go_enter Try.func127, Try.ntmps127
  go_wp2
  go_loop [3] (fun i => ∃ k : Nat, k ≤ p.length ∧ i = .int .i64 k ∧ (p.take k).all (fun x => inB x 100000) = true) (fun i => p.length - (intOf i).toNat)
  case atStart => exact ⟨0, by omega, rfl, by simp⟩
  case round =>
    obtain ⟨k, hk, rfl, ht⟩ := hrel
    have Ht := hd ht
    clear ht
    by_cases hlt : k < p.length
    · obtain ⟨x, b0, off, hx, rfl, hbw, hc⟩ := Hh.out.at_ hlt
      have Hx := hd hx
      clear hx
      by_cases hin : in2 x (-100000) 100000 = true
      · go_wp2_with (go_at_call 96; refine (l1In_any x (-100000) 100000 _).mono ?_; rintro e w' ⟨rfl, rfl⟩)
        go_round
        case rel => exact ⟨k + 1, by omega, by go_num, all_take_succ _ _ _ _ Hx.out Ht.out hin⟩
        case measure => simp [intOf]; omega
      · have hin' : in2 x (-100000) 100000 = false := by simpa using hin
        clear hin
        have Hf : Hid (validP p = false) := hd (by
          have := all_false_of (fun x => inB x 100000) p k x Hx.out hin'
          simp [validP, allB, this])
        go_wp2_with (go_at_call 96; refine (l1In_any x (-100000) 100000 _).mono ?_; rintro e w' ⟨rfl, rfl⟩)
        go_ret
        exact ⟨ret_bool Hf.out.symm, rfl⟩
    · have hke : k = p.length := by omega
      have Hf : Hid (validP p = in2 p.length 1 7) := hd (by
        have := Ht.out
        rw [hke, List.take_length] at this
        have h2 : allB p 100000 = true := this
        rw [Bool.eq_iff_iff]
        simp [validP, h2, in2]
        omega)
      clear hke
      go_wp2_with (go_at_call 96; refine (l1In_any p.length 1 7 _).mono ?_; rintro e w' ⟨rfl, rfl⟩)
      go_ret
      exact ⟨ret_bool Hf.out.symm, rfl⟩

theorem l2Choose_any (n : Int) (k : Nat) (w : World) (hn : -300 ≤ n) (hn' : n ≤ 300) (hk : k ≤ 6) :
    Calls Try.prog 156 #[.int .i64 n, .int .i64 k] w fun e w' => e = .returned (.int .i64 (chs n k)) ∧ w' = w := by
  go_enter Try.func156, Try.ntmps156
  go_wp2
  go_loop [5, 6] (fun r i => ∃ j : Nat, j ≤ k ∧ i = .int .i64 j ∧ r = .int .i64 (chs n j)) (fun _ i => k - (intOf i).toNat)
  case atStart => exact ⟨0, by omega, rfl, rfl⟩
  case round =>
    obtain ⟨j, hj, rfl, rfl⟩ := hrel
    by_cases hlt : j < k
    · have hm := chs_mul n hn hn' j (by omega)
      have ht := tdiv_bd _ _ j hm.1 hm.2
      have HS : Hid (chs n (j + 1) = (chs n j * (n - j)).tdiv (j + 1)) := rfl
      obtain ⟨hm1, hm2⟩ := hm
      obtain ⟨ht1, ht2⟩ := ht
      go_wp2
      go_round
      case rel => exact ⟨j + 1, by omega, by go_num, by rw [HS.out]⟩
      case measure => simp [intOf]; omega
    · obtain rfl : j = k := by omega
      go_wp2
      go_ret
      exact ⟨rfl, rfl⟩

set_option maxHeartbeats 400000 in
theorem l2Eval_any (A : Option Addr) (c : Nat) (p : List Int) (n : Int) (w : World) (h : SI w A p) (hp : p.length ≤ 7) (hv : ValOk p n) (hn : -300 ≤ n) (hn' : n ≤ 300) :
    Calls Try.prog 155 #[.slice A p.length c, .int .i64 n] w fun e w' => e = .returned (.int .i64 (val p n)) ∧ Below w.heap.size w w' := by
  have Hh := hd h
  have Hv := hd hv
  clear h hv
  go_enter Try.func155, Try.ntmps155
  go_wp2
  go_loopw [5, 6] (fun s i wr => ∃ k : Nat, k ≤ p.length ∧ i = .int .i64 k ∧ s = .int .i64 (val (p.take k) n) ∧ Below w.heap.size w wr) (fun _ i _ => p.length - (intOf i).toNat)
  case atStart => exact ⟨0, by omega, rfl, by simp [val, valF], Below.refl _ _⟩
  case round =>
    obtain ⟨k, hk, rfl, rfl, hbel⟩ := hrel
    by_cases hlt : k < p.length
    · obtain ⟨x, b0, off, hx, rfl, hbw, hc⟩ := (Hh.out.below hbel).at_ hlt
      obtain ⟨v1, v2, v3, v4⟩ := Hv.out k x hx
      have HS := hd (val_take p k x n hx)
      clear hx
      have hk6 : k ≤ 6 := by omega
      have e1 : IntKind.i64.wrap (x * chs n k) = x * chs n k := IntWalk.i64_in _ (by omega)
      have e2 : IntKind.i64.wrap (val (List.take k p) n + x * chs n k) = val (List.take k p) n + x * chs n k := IntWalk.i64_in _ (by omega)
      go_wp2
      go_quiet ((go_at_call 156; exact Calls.quiet_of_same (l2Choose_any n k _ hn hn' hk6)))
      clear e1 e2
      go_wp2
      go_roundw
      case rel => exact ⟨k + 1, by omega, by go_num, by rw [HS.out], below_drewN hbel _⟩
      case measure => simp [intOf]; omega
    · have hke : k = p.length := by omega
      have Hf : Hid (val (p.take k) n = val p n) := hd (by rw [hke, List.take_length])
      clear hke
      go_wp2
      go_ret
      exact ⟨ret_int Hf.out, hbel⟩

end Go.Proofs.Ytkmblobfamhoiaa

/- Contracts of the reference's lists of values and of differences. -/
namespace Go.Proofs.Ytkmblobfamhoiaa
open Go.RowKit
set_option maxRecDepth 4000

theorem l2Eval_n (m : Nat) (A : Option Addr) (c : Nat) (p : List Int) (n : Int) (w : World) (hm : p.length = m) (h : SI w A p) (hp : p.length ≤ 7) (hv : ValOk p n) (hn : -300 ≤ n) (hn' : n ≤ 300) :
    Calls Try.prog 155 #[.slice A m c, .int .i64 n] w fun e w' => e = .returned (.int .i64 (val p n)) ∧ Below w.heap.size w w' := by
  subst hm; exact l2Eval_any A c p n w h hp hv hn hn'

/-- The values of a polynomial at from, from + step, .., cnt of them; all arguments small. -/
theorem tab_take_succ (n : Nat) (f : Nat → Int) (k : Nat) (hk : k < n) : (tab n f).take (k + 1) = (tab n f).take k ++ [f k] := by
  have h := tab_at f hk
  obtain ⟨h1, h2⟩ := List.getElem?_eq_some_iff.1 h
  rw [List.take_succ_eq_append_getElem h1, h2]

set_option maxHeartbeats 400000 in
theorem l2Values_any (A : Option Addr) (c : Nat) (p : List Int) (frm stp : Int) (cnt : Nat) (w : World) (h : SI w A p) (hv : validP p = true) (hs1 : -1000 ≤ stp) (hs2 : stp ≤ 1000) (hc : cnt ≤ 1000)
    (hr : ∀ i : Nat, i < cnt → -300 ≤ frm + stp * i ∧ frm + stp * i ≤ 300) :
    Calls Try.prog 148 #[.slice A p.length c, .int .i64 frm, .int .i64 stp, .int .i64 cnt] w fun e w' => RetI 3 w.heap.size w (tab cnt fun i => val p (frm + stp * i)) e w' := by
  obtain ⟨i0, hi, hz0, hz1, hz2⟩ := info_parts infoI
  obtain ⟨h1, h7, hx⟩ := validP_iff.1 hv
  have Hh := hd h
  have Hr := hd hr
  have Hx := hd hx
  clear h hr hx
  have Hbel0 := hd ((Below.refl w.heap.size w).alloc (Nat.le_refl _) (.cells #[] 3))
  have Hown0 := hd (OwnI.lit0 3 w)
  go_enter Try.func148, Try.ntmps148
  go_wp2
  go_loopw [9, 10] (fun r i wr => ∃ (k : Nat) (A' : Option Addr) (c' : Nat), k ≤ cnt ∧ i = .int .i64 k ∧ r = .slice A' k c' ∧ OwnI 3 w.heap.size wr A' c' ((tab cnt fun i => val p (frm + stp * i)).take k) ∧ Below w.heap.size w wr)
    (fun _ i _ => cnt - (intOf i).toNat)
  case atStart => exact ⟨0, _, _, by omega, rfl, rfl, Hown0.out, Hbel0.out⟩
  case round =>
    obtain ⟨k, A', c', hk, rfl, rfl, hown, hbel⟩ := hrel
    have Hown := hd hown
    clear hown
    by_cases hlt : k < cnt
    · obtain ⟨hr1, hr2⟩ := Hr.out k hlt
      have hm := mul_bd stp k 1000 1000 (by decide) hs1 hs2 (by omega) (by omega)
      obtain ⟨hm1, hm2⟩ := hm
      have Hs := hd (Hh.out.below hbel)
      have Hok := hd (ValOk.of h7 Hx.out (n := frm + stp * k) (by omega) (by omega))
      have Htk : Hid (((tab cnt fun i => val p (frm + stp * i)).take k).length = k) := hd (by rw [List.length_take, tab_length]; omega)
      have HS := hd (tab_take_succ cnt (fun i => val p (frm + stp * i)) k hlt)
      go_wp2_with (first
        | (go_at_call 155; refine (l2Eval_any A c p (frm + stp * k) _ Hs.out h7 Hok.out (by omega) (by omega)).mono ?_; rintro e w1 ⟨rfl, hb1⟩; have Hb := hd (hbel.trans (hb1.mono hbel.size)); have Ho := hd (Hown.out.below hb1); have hsz : w.heap.size ≤ w1.heap.size := Hb.out.size; clear hb1)
        | (at_builtin; refine wpList_app1 rfl _ _ 23 3 rfl w.heap.size i0 Try.underlying23 hi hz0 hz1 hz2 k A' c' _ w1.heap.size (val p (frm + stp * k)) rfl rfl Htk.out (new_cell _ _ _) (Ho.out.alloc _) (by omega) (by simp; omega) ?_; intro A2 c2 w2 hown2 hbel2 _))
      have Hown2 := hd hown2
      have Hbel2 := hd ((Hb.out.alloc hsz _).trans hbel2)
      clear hown2 hbel2
      go_wp2
      go_roundw
      case rel => exact ⟨k + 1, A2, c2, by omega, by go_num, rfl, by rw [HS.out]; exact Hown2.out, Hbel2.out⟩
      case measure => simp [intOf]; omega
    · obtain rfl : k = cnt := by omega
      have Hf : Hid (OwnI 3 w.heap.size wr A' c' (tab k fun i => val p (frm + stp * i))) := hd (by
        have := Hown.out
        rwa [List.take_of_length_le (by rw [tab_length]; omega)] at this)
      go_wp2
      go_ret
      exact RetI.own Hf.out (tab_length _ _).symm hbel

theorem l2Values_f (f : Nat → Int) (A : Option Addr) (c : Nat) (p : List Int) (frm stp : Int) (cnt : Nat) (w : World) (hf : ∀ i : Nat, i < cnt → val p (frm + stp * i) = f i) (h : SI w A p) (hv : validP p = true) (hs1 : -1000 ≤ stp) (hs2 : stp ≤ 1000) (hc : cnt ≤ 1000)
    (hr : ∀ i : Nat, i < cnt → -300 ≤ frm + stp * i ∧ frm + stp * i ≤ 300) :
    Calls Try.prog 148 #[.slice A p.length c, .int .i64 frm, .int .i64 stp, .int .i64 cnt] w fun e w' => RetI 3 w.heap.size w (tab cnt f) e w' := by
  rw [← tab_congr hf]
  exact l2Values_any A c p frm stp cnt w h hv hs1 hs2 hc hr

theorem nbr_take_succ (zs : List Int) (k : Nat) (x y : Int) (h : zs[k]? = some x) (h' : zs[k + 1]? = some y) : (nbr zs).take (k + 1) = (nbr zs).take k ++ [y - x] := by
  have h := nbr_at zs k x y h h'
  obtain ⟨h1, h2⟩ := List.getElem?_eq_some_iff.1 h
  rw [List.take_succ_eq_append_getElem h1, h2]

set_option maxHeartbeats 400000 in
theorem l2Next_any (A : Option Addr) (c : Nat) (zs : List Int) (w : World) (h : SI w A zs) (hl : zs.length ≤ 1000) (hB : ∀ x ∈ zs, -2000000000000000000 ≤ x ∧ x ≤ 2000000000000000000) :
    Calls Try.prog 132 #[.slice A zs.length c] w fun e w' => RetI 3 w.heap.size w (nbr zs) e w' := by
  obtain ⟨i0, hi, hz0, hz1, hz2⟩ := info_parts infoI
  have Hh := hd h
  have HB := hd hB
  clear h hB
  have Hnl := hd (nbr_length zs)
  have Hbel0 := hd ((Below.refl w.heap.size w).alloc (Nat.le_refl _) (.cells #[] 3))
  have Hown0 := hd (OwnI.lit0 3 w)
  go_enter Try.func132, Try.ntmps132
  go_wp2
  go_loopw [3, 4] (fun r i wr => ∃ (k : Nat) (A' : Option Addr) (c' : Nat), k ≤ zs.length - 1 ∧ i = .int .i64 k ∧ r = .slice A' k c' ∧ OwnI 3 w.heap.size wr A' c' ((nbr zs).take k) ∧ Below w.heap.size w wr)
    (fun _ i _ => zs.length - 1 - (intOf i).toNat)
  case atStart => exact ⟨0, _, _, by omega, rfl, rfl, Hown0.out, Hbel0.out⟩
  case round =>
    obtain ⟨k, A', c', hk, rfl, rfl, hown, hbel⟩ := hrel
    have Hown := hd hown
    clear hown
    by_cases hlt : k + 1 < zs.length
    · have h' := Hh.out.below hbel
      obtain ⟨x, b, off, hxk, rfl, hbw, hc0⟩ := h'.at_ (show k < zs.length by omega)
      obtain ⟨y, b', off', hyk, he, hbw', hc1⟩ := h'.at_ hlt
      simp only [Option.some.injEq, Addr.mk.injEq, and_true] at he
      obtain ⟨rfl, rfl⟩ := he
      have hbx := HB.out x (List.mem_of_getElem? hxk)
      have hby := HB.out y (List.mem_of_getElem? hyk)
      have HS := hd (nbr_take_succ zs k x y hxk hyk)
      have Htk : Hid (((nbr zs).take k).length = k) := hd (by rw [List.length_take, Hnl.out]; omega)
      have hsz : w.heap.size ≤ wr.heap.size := hbel.size
      clear hxk hyk h'
      go_wp2
      have e1 : IntKind.i64.wrap ((k : Int) + 1) = (k : Int) + 1 := IntWalk.i64_in _ (by omega)
      have e2 : ((k : Int) + 1).toNat = k + 1 := by omega
      have e3 : IntKind.i64.wrap (y - x) = y - x := IntWalk.i64_in _ (by omega)
      have e4 : (0 : Int) ≤ (k : Int) + 1 := by omega
      have e5 : k < zs.length := by omega
      go_region_law (refine step_app1 rfl _ _ 23 3 rfl w.heap.size i0 Try.underlying23 hi hz0 hz1 hz2 k A' c' _ wr.heap.size (y - x) rfl rfl Htk.out (new_cell _ _ _) (Hown.out.alloc _) (by omega) (by simp; omega) ?_; intro A2 c2 w2 hown2 hbel2 _)
      all_goals
        have Hown2 := hd hown2
        have Hbel2 := hd ((hbel.alloc hsz _).drew.trans hbel2)
        clear hown2 hbel2 e1 e2 e3 e4 e5
        go_wp2
        go_roundw
        case rel => exact ⟨k + 1, A2, c2, by omega, by go_num, rfl, by rw [HS.out]; exact Hown2.out, Hbel2.out⟩
        case measure => simp [intOf]; omega
    · have Hf : Hid (OwnI 3 w.heap.size wr A' c' (nbr zs)) := hd (by
        have := Hown.out
        rwa [List.take_of_length_le (by rw [Hnl.out]; omega)] at this)
      have Hk : Hid (k = (nbr zs).length) := hd (by
        rw [Hnl.out]
        by_cases h0 : zs.length = 0
        · omega
        · omega)
      go_wp2
      go_ret
      exact RetI.own Hf.out Hk.out hbel

set_option maxHeartbeats 800000 in
theorem l2Diffs_any (A : Option Addr) (c : Nat) (zs : List Int) (w : World) (h : SI w A zs) (hl : zs.length ≤ 1000) (hB : ∀ k, k < zs.length → ∀ x ∈ nbrs k zs, -2000000000000000000 ≤ x ∧ x ≤ 2000000000000000000) :
    Calls Try.prog 154 #[.slice A zs.length c] w fun e w' => RetI 3 w.heap.size w (fd zs) e w' := by
  obtain ⟨i0, hi, hz0, hz1, hz2⟩ := info_parts infoI
  have HB := hd hB
  have Hbel0 := hd ((Below.refl w.heap.size w).alloc (Nat.le_refl _) (.cells #[] 3))
  have Hown0 := hd (OwnI.lit0 3 w)
  have Hs0 := hd (h.alloc (.cells #[] 3))
  have Hoff0 : Hid (zs = [] ∨ Off A w.heap.size) := hd (by
    by_cases hz : 0 < zs.length
    · right
      obtain ⟨b, off, e, hb⟩ := h.nonempty hz
      intro a ha
      rw [e] at ha
      simp only [Option.some.injEq] at ha
      subst ha
      simp; omega
    · left; exact List.eq_nil_of_length_eq_zero (by omega))
  clear h hB
  go_enter Try.func154, Try.ntmps154
  go_wp2
  go_loopw [0, 3] (fun row r wr => ∃ (k : Nat) (A' : Option Addr) (c' : Nat) (Ar : Option Addr) (cr : Nat), k ≤ zs.length ∧ row = .slice A' (nbrs k zs).length c' ∧ r = .slice Ar k cr ∧ SI wr A' (nbrs k zs) ∧ (nbrs k zs = [] ∨ ∀ g, (Value.slice Ar k cr).ownBlock = some g → Off A' g) ∧
      OwnI 3 w.heap.size wr Ar cr ((fd zs).take k) ∧ Below w.heap.size w wr)
    (fun _ r _ => zs.length - sliceLen r)
  case atStart =>
    refine ⟨0, A, c, _, _, by omega, rfl, rfl, Hs0.out, ?_, Hown0.out, Hbel0.out⟩
    rcases Hoff0.out with h0 | h0
    · left; exact h0
    · right
      intro g hg
      simp only [Value.ownBlock, Option.some.injEq] at hg
      subst hg; exact h0
  case round =>
    obtain ⟨k, A', c', Ar, cr, hk, rfl, rfl, hs, hoff, hown, hbel⟩ := hrel
    have Hs := hd hs
    have Hoff := hd hoff
    have Hown := hd hown
    clear hs hoff hown
    have Hln := hd (nbrs_length k zs)
    have hsz : w.heap.size ≤ wr.heap.size := hbel.size
    by_cases hlt : k < zs.length
    · have hpos : 0 < (nbrs k zs).length := by rw [Hln.out]; omega
      obtain ⟨x, b, off, hx, rfl, hbw, hc⟩ := Hs.out.at_ hpos
      have Hfk := hd (fd_at zs k x hx)
      have hne : ∀ g, (Value.slice Ar k cr).ownBlock = some g → b ≠ g := by
        rcases Hoff.out with h0 | h0
        · rw [h0] at hpos; simp at hpos
        · intro g hg; exact h0 g hg _ rfl
      have Hne := hd hne
      have Htk : Hid (((fd zs).take k).length = k) := hd (by rw [List.length_take, fd_length]; omega)
      clear hx hne
      rw [Nat.add_zero] at hc
      go_wp2_with (at_builtin; refine wpList_app1g rfl _ _ 23 3 rfl w.heap.size i0 Try.underlying23 hi hz0 hz1 hz2 k Ar cr _ wr.heap.size x rfl rfl Htk.out (new_cell _ _ _) (Hown.out.alloc _) (by omega) (by simp; omega) ?_; intro A2 c2 w2 hown2 hgrow2 hblk2)
      have Hx2 : Hid (SI w2 (some ⟨b, off, none⟩) (nbrs k zs)) := hd (by
        refine ⟨Hs.out.1, fun j v hj => ?_⟩
        obtain ⟨b', off', e, hb', hv⟩ := (Hs.out.alloc (.cells #[.int .i64 x] 3)).2 j v hj
        simp only [Option.some.injEq, Addr.mk.injEq, and_true] at e
        obtain ⟨rfl, rfl⟩ := e
        refine ⟨b, off, rfl, Nat.lt_of_lt_of_le hb' hgrow2.size, hgrow2.cell hv ?_⟩
        intro e
        exact Hne.out b e.symm rfl)
      have HB2 := hd (HB.out k hlt)
      have hbel2 : Below w.heap.size w w2 := (hbel.alloc hsz _).grown hgrow2 (by simp; omega) (fun g hg => (Hown.out.2.lt g (by rw [Htk.out]; exact hg)).1)
      have hsz2 : w.heap.size ≤ w2.heap.size := hbel2.size
      have Hown2 : Hid (OwnI 3 w.heap.size w2 A2 c2 ((fd zs).take (k + 1))) := hd (by
        obtain ⟨hkl, hkx⟩ := List.getElem?_eq_some_iff.1 Hfk.out
        rw [List.take_succ_eq_append_getElem hkl, hkx]
        exact hown2)
      have Hln7 : Hid ((nbrs k zs).length ≤ 1000) := hd (by rw [Hln.out]; omega)
      clear hown2 hgrow2
      go_wp2_with (go_at_call 132; refine (l2Next_any (some ⟨b, off, none⟩) c' (nbrs k zs) _ Hx2.out Hln7.out HB2.out).mono ?_; rintro e w3 ⟨A3, c3, rfl, hown3, hbel3⟩)
      have hown3' : OwnI 3 w2.heap.size w3 A3 c3 (nbrs (k + 1) zs) := hown3
      have hb3 := hbel3.mono hsz2
      go_roundw
      case rel =>
        refine ⟨k + 1, A3, c3, A2, c2, by omega, rfl, rfl, hown3'.si, .inr ?_, Hown2.out.below hbel3, hbel2.trans hb3⟩
        intro g hg
        have hgl : g < w2.heap.size := (Hown2.out.2.lt g (by
          have : ((fd zs).take (k + 1)).length = k + 1 := by rw [List.length_take, fd_length]; omega
          rw [this]; exact hg)).2
        exact hown3'.off hgl
      case measure => simp [sliceLen]; omega
    · obtain rfl : k = zs.length := by omega
      have hz : (nbrs zs.length zs).length = 0 := by rw [Hln.out]; omega
      have Hfl := hd (fd_length zs)
      have Hf : Hid (OwnI 3 w.heap.size wr Ar cr (fd zs)) := hd (by
        have := Hown.out
        rwa [List.take_of_length_le (by rw [Hfl.out]; omega)] at this)
      have hz0' : ¬ (0 : Int) < (nbrs zs.length zs).length := by omega
      clear hz
      go_wp2
      go_ret
      exact RetI.own Hf.out Hfl.out.symm hbel

end Go.Proofs.Ytkmblobfamhoiaa

/- Contracts of the reference's functions that step and turn polynomials. -/
namespace Go.Proofs.Ytkmblobfamhoiaa
open Go.RowKit
set_option maxRecDepth 4000

theorem sPolyValid_n (m : Nat) (A : Option Addr) (c : Nat) (p : List Int) (w : World) (hm : p.length = m) (h : SI w A p) :
    Calls Try.prog 127 #[.slice A m c] w fun e w' => e = .returned (.bool (validP p)) ∧ w = w' := by
  subst hm; exact sPolyValid_any A c p w h

theorem l2Diffs_n (m : Nat) (A : Option Addr) (c : Nat) (zs : List Int) (w : World) (hm : zs.length = m) (h : SI w A zs) (hl : zs.length ≤ 1000) (hB : ∀ k, k < zs.length → ∀ x ∈ nbrs k zs, -2000000000000000000 ≤ x ∧ x ≤ 2000000000000000000) :
    Calls Try.prog 154 #[.slice A m c] w fun e w' => RetI 3 w.heap.size w (fd zs) e w' := by
  subst hm; exact l2Diffs_any A c zs w h hl hB

theorem RetO.lit {E : TypeId} {w w' : World} {r : Option (List Int)} (h : r = none) (hb : Below w.heap.size w w') : RetO E w.heap.size w r (.returned (.tuple #[.slice (some ⟨w'.heap.size, 0, none⟩) 0 0, .bool false])) (w'.alloc (.cells #[] E)) := by
  subst h
  exact ⟨_, _, rfl, (OwnI.lit0 E w').low hb.size, hb.alloc hb.size _⟩

theorem l2Result_any (A : Option Addr) (c : Nat) (zs : List Int) (w : World) (h : SI w A zs) (hl : zs.length ≤ 1000) (hB : ∀ k, k < zs.length → ∀ x ∈ nbrs k zs, -2000000000000000000 ≤ x ∧ x ≤ 2000000000000000000) :
    Calls Try.prog 147 #[.slice A zs.length c] w fun e w' => RetO 3 w.heap.size w (chk (fd zs)) e w' := by
  have Hh := hd h
  have HB := hd hB
  clear h hB
  cases hv : validP (fd zs)
  · have Hf : Hid (chk (fd zs) = none) := hd (by simp [chk, hv])
    go_enter Try.func147, Try.ntmps147
    go_wp2_with (first
      | (go_at_call 154; refine (l2Diffs_any A c zs _ Hh.out hl HB.out).mono ?_; rintro e w1 ⟨A1, c1, rfl, own1, bel1⟩; have hs1 := own1.si; have Hs1 := hd hs1; clear hs1)
      | (go_at_call 127; refine (sPolyValid_any _ _ (fd zs) _ Hs1.out).mono ?_; rintro e w' ⟨rfl, rfl⟩))
    go_ret2
    exact RetO.lit Hf.out bel1
  · have Hf : Hid (chk (fd zs) = some (fd zs)) := hd (by simp [chk, hv])
    go_enter Try.func147, Try.ntmps147
    go_wp2_with (first
      | (go_at_call 154; refine (l2Diffs_any A c zs _ Hh.out hl HB.out).mono ?_; rintro e w1 ⟨A1, c1, rfl, own1, bel1⟩; have hs1 := own1.si; have Hs1 := hd hs1; clear hs1)
      | (go_at_call 127; refine (sPolyValid_any _ _ (fd zs) _ Hs1.out).mono ?_; rintro e w' ⟨rfl, rfl⟩))
    go_ret2
    exact RetO.some_ Hf.out own1 rfl bel1

theorem l2Result_n (m : Nat) (A : Option Addr) (c : Nat) (zs : List Int) (w : World) (hm : zs.length = m) (h : SI w A zs) (hl : zs.length ≤ 1000) (hB : ∀ k, k < zs.length → ∀ x ∈ nbrs k zs, -2000000000000000000 ≤ x ∧ x ≤ 2000000000000000000) :
    Calls Try.prog 147 #[.slice A m c] w fun e w' => RetO 3 w.heap.size w (chk (fd zs)) e w' := by
  subst hm; exact l2Result_any A c zs w h hl hB

end Go.Proofs.Ytkmblobfamhoiaa
