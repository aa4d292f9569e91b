/- Contracts: the program's polynomials from coefficients of powers. -/
import Derived.Test.YthoodhdcmckkpaaPolyI
import Derived.Test.YthoodhdcmckkpaaSpecJ
namespace Go.Proofs.Ythoodhdcmckkpaa
open Go.RowKit

theorem col_set {m n : Nat} (f : Nat → Int) (u v : Int) : ((tab m fun i => if i = n then u else f i).set n v) = tab m fun i => if i = n then v else f i := by
  rw [tab_set]
  refine tab_ext fun i _ => ?_
  by_cases hi : i = n
  · rw [if_pos hi, if_pos hi]
  · rw [if_neg hi, if_neg hi, if_neg hi]

set_option maxHeartbeats 4000000 in
theorem FromPowers_any (A : Option Addr) (cc : Nat) (c : List Int) (w : World) (h : SI w A c) :
    Calls Try.prog 58 #[.slice A c.length cc] w fun e w' => RetO 3 w.heap.size w (fromP c) e w' := by
  obtain ⟨i0, hi, hz0, hz1, hz2⟩ := info_parts infoI
  have Hh := hd h
  have hl := h.len
  clear h
  by_cases h1 : 1 ≤ c.length
  case neg =>
    have Hf : Hid (fromP c = none) := hd (by simp [fromP, validP, h1])
    go_enter Try.func58, Try.ntmps58
    go_wp2
    go_ret2
    exact RetO.none_ Hf.out (Below.refl _ _)
  by_cases h7 : c.length ≤ 7
  case neg =>
    have Hf : Hid (fromP c = none) := hd (by simp [fromP, validP, h7])
    go_enter Try.func58, Try.ntmps58
    go_wp2
    go_ret2
    exact RetO.none_ Hf.out (Below.refl _ _)
  cases hb : allB c 100000
  · have Hf : Hid (fromP c = none) := hd (by simp [fromP, validP, hb])
    go_enter Try.func58, Try.ntmps58
    go_wp2_with fail
    refine (allWithin_any A cc c 100000 _ Hh.out (by decide) (by decide)).mono ?_
    rintro e w' ⟨rfl, rfl⟩
    go_wp2
    go_ret2
    exact RetO.none_ Hf.out (Below.refl _ _)
  have hv : validP c = true := by simp [validP, h1, h7, hb]
  have Hv := hd hv
  have Hx := hd (validP_iff.1 hv).2.2
  have Hf : Hid (fromP c = chk (fd (tab c.length fun n => pw c n))) := hd (by simp [fromP, hv])
  have HB := hd (from_bd hv)
  have Htl := hd (tab_length c.length fun n => pw c n)
  clear hv
  go_enter Try.func58, Try.ntmps58
  go_wp2_with fail
  refine (allWithin_any A cc c 100000 _ Hh.out (by decide) (by decide)).mono ?_
  rintro e w' ⟨rfl, rfl⟩
  go_wp2_with (at_make; refine wpList_make_full _ rfl _ _ 23 rfl w.heap.size 3 i0 (.int .i64 0) 1 Try.underlying23 hi hz0 hz1 .i64 .i64 _ _ c.length rfl rfl rfl rfl (by rw [hz2]; omega) (by unfold maxLen; omega) (Nat.le_refl _) ?_; intro w1 hown hgrow)
  have How0 : Hid (OW 3 w.heap.size w1 w.heap.size c.length (tab c.length fun m => if m < 0 then pw c m else 0)) := hd (by
    have := OW.made hown (by omega)
    rwa [show (tab c.length fun m => if m < 0 then pw c (m : Int) else 0) = List.replicate c.length 0 by rw [← nxt_zero [] 0]; exact tab_ext fun i _ => by simp [nxt]])
  have Hbel0 : Hid (Below w.heap.size w w1) := hd ((Below.refl _ _).grown hgrow (Nat.le_refl _) (by simp))
  clear hown hgrow
  go_loopw [25] (fun i wr => ∃ n : Nat, n ≤ c.length ∧ i = .int .i64 n ∧ OW 3 w.heap.size wr w.heap.size c.length (tab c.length fun m => if m < n then pw c m else 0) ∧ Below w.heap.size w wr)
    (fun i _ => c.length - (intOf i).toNat)
  case atStart => exact ⟨0, by omega, rfl, How0.out, Hbel0.out⟩
  case round =>
    clear How0 Hbel0
    obtain ⟨n, hn, rfl, how, hbel⟩ := hrel
    have How := hd how
    have Hbel := hd hbel
    clear how hbel
    by_cases hlt : n < c.length
    · have How1 : Hid (OW 3 w.heap.size wr w.heap.size c.length (tab c.length fun m => if m = n then pw (c.drop c.length) n else if m < n then pw c m else 0)) := hd (by
        have := How.out
        rwa [tab_ext (g := fun m => if m = n then pw (c.drop c.length) n else if m < n then pw c m else 0) (fun m _ => by
          by_cases hm : m = n
          · rw [if_pos hm, if_neg (by omega), List.drop_length]; rfl
          · rw [if_neg hm])] at this)
      clear How
      go_wp2
      go_loopw [6] (fun i wr => ∃ k : Nat, k ≤ c.length ∧ i = .int .i64 ((k : Int) - 1) ∧ OW 3 w.heap.size wr w.heap.size c.length (tab c.length fun m => if m = n then pw (c.drop k) n else if m < n then pw c m else 0) ∧ Below w.heap.size w wr)
        (fun i _ => (intOf i + 1).toNat)
      case atStart => exact ⟨c.length, by omega, rfl, How1.out, Hbel.out⟩
      case round =>
        clear How1 Hbel
        obtain ⟨k, hk, rfl, how, hbel⟩ := hrel
        have How := hd how
        have Hbel := hd hbel
        clear how hbel
        by_cases hk0 : 0 < k
        · obtain ⟨l, rfl⟩ : ∃ l, k = l + 1 := ⟨k - 1, by omega⟩
          have ei : ((l + 1 : Nat) : Int) - 1 = (l : Int) := by omega
          rw [ei]
          obtain ⟨hb1, hb2⟩ := pw_drop_bd Hv.out (n := (n : Int)) (by omega) (by omega) (l + 1)
          obtain ⟨y, Hy⟩ : ∃ y, Hid (pw (c.drop (l + 1)) n = y) := ⟨_, hd rfl⟩
          rw [Hy.out] at hb1 hb2 How
          obtain ⟨x, b, off, hx, rfl, hbb, hcc⟩ := (Hh.out.below Hbel.out).at_ (k := l) (by omega)
          obtain ⟨hx1, hx2⟩ := Hx.out x (List.mem_of_getElem? hx)
          have Hn := hd (pw_drop hx n)
          rw [Hy.out] at Hn
          obtain ⟨o, ho, hco⟩ := How.out.cell hlt
          obtain rfl : o = y := by rw [tab_at _ hlt, if_pos rfl] at ho; injection ho with ho; exact ho.symm
          have hf := How.out.frozen n
          have hm := mul_bd o n 13725700000 7 (by decide) hb1 hb2 (by omega) (by omega)
          obtain ⟨hm1, hm2⟩ := hm
          have e1 : IntKind.i64.wrap (o * n) = o * n := IntWalk.i64_in _ (by omega)
          have e2 : IntKind.i64.wrap (o * n + x) = o * n + x := IntWalk.i64_in _ (by omega)
          have e3 : l < c.length := by omega
          clear hx ho ei
          go_wp2
          go_region_law (fail)
          all_goals
            clear e1 e2
            go_wp2
            go_roundw
            case rel => exact ⟨l, by omega, by go_num, (by
              have h2 := How.out.set n (o * n + x)
              rw [col_set, ← Hn.out] at h2
              rw [← Hn.out]
              exact h2), (Hbel.out.setCell (Nat.le_refl _) _).drew⟩
            case measure => simp [intOf] <;> omega
        · obtain rfl : k = 0 := by omega
          have How2 : Hid (OW 3 w.heap.size wr w.heap.size c.length (tab c.length fun m => if m < n + 1 then pw c m else 0)) := hd (by
            have := How.out
            rwa [tab_ext (g := fun m => if m < n + 1 then pw c m else 0) (fun m _ => by
              by_cases hm : m = n
              · rw [if_pos hm, if_pos (by omega), List.drop_zero, hm]
              · rw [if_neg hm]
                by_cases hm2 : m < n
                · rw [if_pos hm2, if_pos (by omega)]
                · rw [if_neg hm2, if_neg (by omega)])] at this)
          clear How
          go_wp2
          go_roundw
          case rel => exact ⟨n + 1, by omega, by go_num, How2.out, Hbel.out⟩
          case measure => simp [intOf] <;> omega
    · obtain rfl : n = c.length := by omega
      have How2 : Hid (OW 3 w.heap.size wr w.heap.size c.length (tab c.length fun m => pw c m)) := hd (by
        have := How.out
        rwa [tab_ext (g := fun m => pw c m) (fun m hm => by rw [if_pos hm])] at this)
      have Ho := hd How2.out.own.si
      have hsz := How2.out.lt.2
      clear How
      go_wp2_with fail
      refine (firstDifferences_n _ _ _ (tab c.length fun m => pw c m) _ Htl.out Ho.out HB.out).mono ?_
      rintro e w2 ⟨A2, c2, rfl, own2, bel2⟩
      have bel3 := bel2.mono (Nat.le_of_lt hsz)
      go_wp2_with fail
      refine (checked_own _ _ _ _ _ _ own2).mono ?_
      rintro e w3 ⟨A3, c3, rfl, own3, bel4⟩
      go_wp2
      go_ret2
      rw [Hf.out]
      exact ⟨A3, c3, rfl, own3.low (Nat.le_of_lt hsz), (Hbel.out.trans bel3).trans (bel4.mono (Nat.le_of_lt hsz))⟩

end Go.Proofs.Ythoodhdcmckkpaa
