/- Contracts: the program's coefficients of powers. -/
import Derived.Test.YthoodhdcmckkpaaMemV
import Derived.Test.YthoodhdcmckkpaaPureN
namespace Go.Proofs.Ythoodhdcmckkpaa
open Go.RowKit

theorem grown_set (w : World) (p : Addr) (v : Value) : w.grownBy (w.setCell p v) (some p.block) :=
  ⟨rfl, rfl, rfl, by simp [World.setCell], fun k hk hne => Below.heap_setCell _ _ _ _ (by
    intro e
    subst e
    exact hne rfl)⟩

theorem OW.grown {E : TypeId} {B : Nat} {w w' : World} {g n : Nat} {xs : List Int} {row : Option Nat} (h : OW E B w g n xs) (hg : w.grownBy w' row) (hr : row ≠ some g) : OW E B w' g n xs :=
  ⟨h.1, h.2.1, h.2.2.kept hg (.inr (by simpa [Value.ownBlock] using fun e => hr e.symm))⟩

/-- Kept where its own block is kept. -/
theorem OW.keepb {E : TypeId} {B : Nat} {w w' : World} {g n : Nat} {xs : List Int} (h : OW E B w g n xs) (hb : w'.heap[g]? = w.heap[g]?) : OW E B w' g n xs := by
  obtain ⟨h1, h2, h3, h4⟩ := h
  refine ⟨h1, h2, h3, ?_⟩
  rcases h4 with ⟨hv, h0⟩ | ⟨g', cap, cur, hv, hB, hg, r⟩
  · exact .inl ⟨hv, h0⟩
  · refine .inr ⟨g', cap, cur, hv, hB, ?_, r⟩
    have e : g = g' := by
      simp only [Value.slice.injEq, Option.some.injEq, Addr.mk.injEq, and_true] at hv
      exact hv.1
    rw [← e, hb, e]; exact hg

set_option maxHeartbeats 4000000 in
theorem PowersOf_any (A : Option Addr) (c : Nat) (p : List Int) (w : World) (h : SI w A p) :
    Calls Try.prog 26 #[.slice A p.length c] w fun e w' => RetI 3 w.heap.size w (powP p) e w' := by
  obtain ⟨i0, hi, hz0, hz1, hz2⟩ := info_parts infoI
  have Hh := hd h
  clear h
  cases hv : validP p
  · have Hf : Hid (powP p = []) := hd (by simp [powP, hv])
    go_enter Try.func26, Try.ntmps26
    go_wp2_with (go_at_call 28; refine (PolyValid_any A c p _ Hh.out).mono ?_; rintro e w' ⟨rfl, rfl⟩)
    go_ret
    exact RetI.empty Hf.out (Below.refl _ _)
  · obtain ⟨h1, h7, hx⟩ := validP_iff.1 hv
    have Hf : Hid (powP p = tab p.length fun i => rsum p i p.length) := hd (by simp [powP, hv])
    have Hx := hd hx
    clear hx
    go_enter Try.func26, Try.ntmps26
    go_wp2_with (first
      | (go_at_call 28; refine (PolyValid_any A c p _ Hh.out).mono ?_; rintro e w' ⟨rfl, rfl⟩)
      | (at_make; refine wpList_make_full _ rfl _ _ 23 rfl w.heap.size 3 i0 (.int .i64 0) 1 Try.underlying23 hi hz0 hz1 .i64 .i64 _ _ p.length rfl rfl rfl rfl (by rw [hz2]; omega) (by unfold maxLen; omega) (Nat.le_refl _) ?_; intro w1 hown hgrow))
    have how0 := OW.made hown (by omega)
    have hbel0 : Below w.heap.size w w1 := (Below.refl _ _).grown hgrow (Nat.le_refl _) (by simp)
    have hsz1 := how0.lt.2
    have How1 : Hid (OW 3 w.heap.size (w1.alloc (.cells #[.int .i64 1] 3)) w.heap.size p.length (tab p.length fun i => rsum p i 0)) := hd (by
      have := how0.below ((Below.refl _ _).alloc (Nat.le_refl _) (.cells #[.int .i64 1] 3))
      rwa [show (tab p.length fun i => rsum p i 0) = List.replicate p.length 0 by rw [← nxt_zero [] 0]; exact tab_ext fun i _ => by simp [rsum, nxt]])
    have Hlit : Hid (OwnI 3 (w.heap.size + 1) (w1.alloc (.cells #[.int .i64 1] 3)) (some ⟨w1.heap.size, 0, none⟩) 1 (ffl 0)) := hd
      (OwnI.low ⟨by simp [ffl], World.ownsRow_lit (base := w1.heap.size) (e := 3) (size := 1) w1 #[.int .i64 1] 1 (Nat.le_refl _) (by simp [maxLen]) rfl⟩ hsz1)
    have Hbel1 := hd (hbel0.alloc (Nat.le_of_lt hsz1) (.cells #[.int .i64 1] 3))
    clear hown hgrow how0 hbel0
    go_wp2
    go_loopw [4, 5, 22] (fun pr fa i wr => ∃ (k : Nat) (Ap : Option Addr) (cp : Nat), k ≤ p.length ∧ i = .int .i64 k ∧ pr = .slice Ap (k + 1) cp ∧ fa = .int .i64 (fct k) ∧ OW 3 w.heap.size wr w.heap.size p.length (tab p.length fun i => rsum p i k) ∧ OwnI 3 (w.heap.size + 1) wr Ap cp (ffl k) ∧ Below w.heap.size w wr)
      (fun _ _ i _ => p.length - (intOf i).toNat)
    case atStart => exact ⟨0, _, _, by omega, rfl, rfl, rfl, How1.out, Hlit.out, Hbel1.out⟩
    case round =>
      clear How1 Hlit Hbel1
      obtain ⟨k, Ap, cp, hk, rfl, rfl, rfl, how, hown, hbel⟩ := hrel
      have How := hd how
      have Hown := hd hown
      have Hbel := hd hbel
      clear how hown hbel
      by_cases hlt : k < p.length
      · obtain ⟨d, b, off, hdx, rfl, hb, hc⟩ := (Hh.out.below Hbel.out).at_ hlt
        obtain ⟨hd1, hd2⟩ := Hx.out d (List.mem_of_getElem? hdx)
        have Hdx := hd hdx
        obtain ⟨hq1, hq2, -⟩ := qk_bd k (by omega)
        obtain ⟨hf1, hf2⟩ := fct_bd (k + 1) (by omega)
        obtain ⟨hf3, hf4⟩ := fct_bd k (by omega)
        have Hqk : Hid ((720 : Int) / fct k = qk k) := hd rfl
        have Hfs : Hid (fct (k + 1) = (k + 1) * fct k) := hd rfl
        have Hln := hd (ffl_length k)
        clear hdx
        go_wp2
        go_loopw [29] (fun i wr => ∃ (j : Nat), j ≤ k + 1 ∧ i = .int .i64 j ∧ OW 3 w.heap.size wr w.heap.size p.length (tab p.length fun i => if i < j then rsum p i (k + 1) else rsum p i k) ∧ OwnI 3 (w.heap.size + 1) wr Ap cp (ffl k) ∧ Below w.heap.size w wr)
          (fun i _ => k + 1 - (intOf i).toNat)
        case atStart => exact ⟨0, by omega, rfl, by simpa using How.out, Hown.out, Hbel.out⟩
        case round =>
          clear How Hown Hbel
          obtain ⟨j, hj, rfl, how, hown, hbel⟩ := hrel
          have How := hd how
          have Hown := hd hown
          have Hbel := hd hbel
          clear how hown hbel
          by_cases hjl : j < k + 1
          · obtain ⟨g, q, hqx, rfl, hqc, hqf⟩ := Hown.out.at_ (k := j) (by rw [Hln.out]; exact hjl)
            have Hqx := hd hqx
            obtain ⟨hq3, hq4⟩ := ffl_bd k (by omega) q (List.mem_of_getElem? hqx)
            obtain ⟨o, ho, hco⟩ := How.out.cell (k := j) (by omega)
            have hoe : o = rsum p j k := by rw [tab_at _ (by omega), if_neg (by omega)] at ho; injection ho with ho; exact ho.symm
            obtain ⟨ho1, ho2⟩ := rsum_bd Hx.out j k (by omega) (by omega)
            rw [← hoe] at ho1 ho2
            have Hoe := hd hoe
            have hfo := How.out.frozen j
            have hjp : j < p.length := by omega
            have hm1 := mul_bd d (qk k) 100000 720 (by decide) hd1 hd2 (by omega) hq2
            have hm2 := mul_bd (d * qk k) q 72000000 1000000 (by decide) (by omega) (by omega) hq3 hq4
            obtain ⟨hm3, hm4⟩ := hm1
            obtain ⟨hm5, hm6⟩ := hm2
            have Hst := hd (rsum_step (p := p) (j := j) (k := k) (by omega) Hdx.out Hqx.out)
            have hgne : ¬ g = w.heap.size := by have := (Hown.out.2.lt g rfl).1; omega
            have ho3 : -1000000000000 ≤ o := by omega
            have ho4 : o ≤ 1000000000000 := by omega
            have w1 : IntKind.i64.wrap (d * qk k) = d * qk k := IntWalk.i64_in _ (by omega)
            have w2 : IntKind.i64.wrap (d * qk k * q) = d * qk k * q := IntWalk.i64_in _ (by omega)
            have w3 : IntKind.i64.wrap (o + d * qk k * q) = o + d * qk k * q := IntWalk.i64_in _ (by omega)
            have w4 : IntKind.i64.wrap (qk k) = qk k := IntWalk.i64_in _ (by omega)
            have w5 : (720 : Int).tdiv (fct k) = qk k := by rw [Int.tdiv_eq_ediv_of_nonneg (by decide)]; exact Hqk.out
            have w6 : (720 : Int) / fct k = qk k := Hqk.out
            have w7 : ¬ fct k = 0 := by omega
            have w8 : ¬ fct k = -1 := by omega
            clear hqx ho hoe ho1 ho2
            go_wp2
            go_region_law (fail)
            all_goals
              clear w1 w2 w3 w4 w5 w6 w7 w8
              go_wp2
              go_roundw
              case rel =>
                refine ⟨j + 1, by omega, by go_num, ?_, ?_, (Hbel.out.setCell (Nat.le_refl _) _).drew⟩
                · have h2 := How.out.set j (o + d * qk k * q)
                  rw [acc_step (fun i => rsum p i k) (fun i => rsum p i (k + 1)) _ (by rw [Hoe.out]; exact Hst.out) hjp] at h2
                  exact h2
                · exact (Hown.out.keep_lo (grown_set wr ⟨w.heap.size, j, none⟩ (.int .i64 (o + d * qk k * q))) (fun r hr => by simp at hr; omega)).drew
              case measure => simp [intOf]; omega
          · obtain rfl : j = k + 1 := by omega
            have How2 : Hid (OW 3 w.heap.size wr w.heap.size p.length (tab p.length fun i => rsum p i (k + 1))) := hd (by
              have := How.out
              rwa [tab_ext (g := fun i => rsum p i (k + 1)) (fun i _ => by
                by_cases hi : i < k + 1
                · rw [if_pos hi]
                · rw [if_neg hi, rsum_high p (by omega)])] at this)
            have hszr : w.heap.size < wr.heap.size := How.out.lt.2
            obtain ⟨wm, hwm⟩ : ∃ x : World, x = wr := ⟨wr, rfl⟩
            subst hwm
            clear How
            go_wp2_with (at_make; refine wpList_make_full _ rfl _ _ 23 rfl wm.heap.size 3 i0 (.int .i64 0) 1 Try.underlying23 hi hz0 hz1 .i64 .i64 _ _ (k + 2) rfl rfl (by omega) (by omega) (by rw [hz2]; omega) (by unfold maxLen; omega) (Nat.le_refl _) ?_; intro w2 hown2 hgrow2)
            have how2 := OW.made hown2 (by omega)
            have bel2 : Below wm.heap.size wm w2 := (Below.refl _ _).grown hgrow2 (Nat.le_refl _) (by simp)
            have How2 := hd (How2.out.below bel2)
            have Hnx0 : Hid (OW 3 wm.heap.size w2 wm.heap.size (k + 2) (tab (k + 2) fun i => nxt (ffl k) k 0 i)) := hd (by rw [nxt_zero]; exact how2)
            have Hown2 := hd (Hown.out.below bel2)
            have Hbel2 := hd (Hbel.out.trans (bel2.mono (Nat.le_of_lt hszr)))
            have Hbx0 := hd bel2
            have Hs0 := hd Hown.out.si
            clear hown2 hgrow2 how2 bel2 Hown Hbel
            go_wp2
            go_loopw [53] (fun i wr => ∃ (j : Nat), j ≤ k + 1 ∧ i = .int .i64 j ∧ OW 3 wm.heap.size wr wm.heap.size (k + 2) (tab (k + 2) fun i => nxt (ffl k) k j i) ∧ Below wm.heap.size w2 wr)
              (fun i _ => k + 1 - (intOf i).toNat)
            case atStart => exact ⟨0, by omega, rfl, Hnx0.out, Below.refl _ _⟩
            case round =>
              clear Hnx0
              obtain ⟨j, hj, rfl, hnx, hbx⟩ := hrel
              have Hnx := hd hnx
              have Hbx := hd hbx
              clear hnx hbx
              by_cases hjl : j < k + 1
              · obtain ⟨q, b3, off3, hqx, rfl, hqb, hqc⟩ := (Hs0.out.below (Hbx0.out.trans Hbx.out)).at_ (k := j) (by rw [Hln.out]; exact hjl)
                have Hqx := hd hqx
                obtain ⟨hq3, hq4⟩ := ffl_bd k (by omega) q (List.mem_of_getElem? hqx)
                obtain ⟨o, ho, hco⟩ := Hnx.out.cell (k := j) (by omega)
                have hoe : o = nxt (ffl k) k j j := by rw [tab_at _ (by omega)] at ho; injection ho with ho; exact ho.symm
                have Hoe := hd hoe
                have hob : -1000000 ≤ o ∧ o ≤ 1000000 := by
                  rw [hoe, nxt, if_neg (by omega), if_pos rfl]
                  split
                  · omega
                  · rw [getD_of (List.getElem?_eq_getElem (by rw [Hln.out]; omega))]
                    exact ffl_bd k (by omega) _ (List.getElem_mem _)
                obtain ⟨ho1, ho2⟩ := hob
                obtain ⟨o', ho', hco'⟩ := Hnx.out.cell (k := j + 1) (by omega)
                obtain rfl : o' = 0 := by rw [tab_at _ (by omega), nxt_next] at ho'; injection ho' with ho'; exact ho'.symm
                have hf1 := Hnx.out.frozen j
                have hf2 := Hnx.out.frozen (j + 1)
                have hm1 := mul_bd q k 1000000 7 (by decide) hq3 hq4 (by omega) (by omega)
                obtain ⟨hm3, hm4⟩ := hm1
                have hj2 : j + 1 < k + 2 := by omega
                have hj3 : (j : Int) + 1 < ((k + 2 : Nat) : Int) := by omega
                have hj4 : j < k + 2 := by omega
                have hbn : ¬ b3 = wm.heap.size := by
                  obtain ⟨_, b4, off4, _, he4, hb4, _⟩ := Hs0.out.at_ (k := j) (by rw [Hln.out]; exact hjl)
                  simp only [Option.some.injEq, Addr.mk.injEq, and_true] at he4
                  omega
                clear hqx ho hoe ho'
                go_wp2
                go_roundw
                case rel =>
                  refine ⟨j + 1, by omega, by go_num, ?_, (Hbx.out.setCell (Nat.le_refl _) _).setCell (Nat.le_refl _) _⟩
                  have h2 := (Hnx.out.set (j + 1) q).set j (o - q * k)
                  rw [Hoe.out, Int.mul_comm q, nxt_step (ffl k) k (k + 2) j q Hqx.out hj2] at h2
                  rw [Hoe.out, Int.mul_comm q]
                  exact h2
                case measure => simp [intOf]; omega
              · obtain rfl : j = k + 1 := by omega
                have Hpn : Hid (OwnI 3 (w.heap.size + 1) wr (some ⟨wm.heap.size, 0, none⟩) (k + 2) (ffl (k + 1))) := hd (by
                  have h2 := (Hnx.out.own.low (show w.heap.size + 1 ≤ wm.heap.size by omega))
                  have h3 := nxt_end (ffl k) k
                  rw [Hln.out] at h3
                  rwa [h3] at h2)
                have How3 : Hid (OW 3 w.heap.size wr w.heap.size p.length (tab p.length fun i => rsum p i (k + 1))) := hd (How2.out.keepb (Hbx.out.block w.heap.size hszr))
                have Hbel3 := hd (Hbel2.out.trans (Hbx.out.mono (Nat.le_of_lt hszr)))
                have hf5 : 1 ≤ fct k * ((k : Int) + 1) := by have := Hfs.out; rw [Int.mul_comm]; omega
                have hf6 : fct k * ((k : Int) + 1) ≤ 5040 := by have := Hfs.out; rw [Int.mul_comm]; omega
                clear How2 Hnx Hbel2 Hbx Hbx0 Hown2
                go_wp2
                go_roundw
                case rel => exact ⟨k + 1, _, _, by omega, by go_num, rfl, by rw [Hfs.out, Int.mul_comm], How3.out, Hpn.out, Hbel3.out⟩
                case measure => simp [intOf]; omega
      · obtain rfl : k = p.length := by omega
        have Hr : Hid (RetI 3 w.heap.size w (powP p) (.returned (.slice (some ⟨w.heap.size, 0, none⟩) p.length p.length)) wr) := hd (RetI.ow How.out Hf.out.symm Hbel.out)
        clear How Hown Hbel
        go_wp2
        go_ret
        exact Hr.out

end Go.Proofs.Ythoodhdcmckkpaa
