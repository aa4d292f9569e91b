/- Contracts: the reference's coefficients of powers. -/
import Derived.Test.YthoodhdcmckkpaaPolyI
import Derived.Test.YthoodhdcmckkpaaSpecG
namespace Go.Proofs.Ythoodhdcmckkpaa
open Go.RowKit

theorem tms_scf_bd (k : Nat) (h : k ≤ 6) : ∀ x ∈ tms (scf k) k, -10000000 ≤ x ∧ x ≤ 10000000 := by
  match k, h with
  | 0, _ | 1, _ | 2, _ | 3, _ | 4, _ | 5, _ | 6, _ => decide
  | k + 7, h => omega

theorem nxt_bd {c : List Int} (hc : ∀ x ∈ c, -1000000 ≤ x ∧ x ≤ 1000000) (k : Int) (j : Nat) : -1000000 ≤ nxt c k j j ∧ nxt c k j j ≤ 1000000 := by
  rw [nxt, if_neg (by omega), if_pos rfl]
  split
  · omega
  · rw [List.getD_eq_getElem?_getD]
    cases hx : c[j - 1]? with
    | none => simp
    | some y => exact hc y (List.mem_of_getElem? hx)

set_option maxHeartbeats 4000000 in
theorem l2Times_any (A : Option Addr) (cc : Nat) (c : List Int) (k : Nat) (w : World) (h : SI w A c) (hl : c.length ≤ 7) (hk : k ≤ 6) (hc : ∀ x ∈ c, -1000000 ≤ x ∧ x ≤ 1000000) :
    Calls Try.prog 78 #[.slice A c.length cc, .int .i64 k] w fun e w' => RetI 3 w.heap.size w (tms c k) e w' := by
  obtain ⟨i0, hi, hz0, hz1, hz2⟩ := info_parts infoI
  have Hh := hd h
  have Hc := hd hc
  clear h hc
  go_enter Try.func78, Try.ntmps78
  go_wp2_with (at_make; refine wpList_make_full _ rfl _ _ 23 rfl w.heap.size 3 i0 (.int .i64 0) 1 Try.underlying23 hi hz0 hz1 .i64 .i64 _ _ (c.length + 1) rfl rfl (by omega) (by omega) (by rw [hz2]; omega) (by unfold maxLen; omega) (Nat.le_refl _) ?_; intro w1 hown hgrow)
  have How0 : Hid (OW 3 w.heap.size w1 w.heap.size (c.length + 1) (tab (c.length + 1) fun i => nxt c k 0 i)) := hd (by rw [nxt_zero]; exact OW.made hown (by omega))
  have Hbel0 : Hid (Below w.heap.size w w1) := hd ((Below.refl _ _).grown hgrow (Nat.le_refl _) (by simp))
  clear hown hgrow
  go_wp2
  go_loopw [6] (fun i wr => ∃ j : Nat, j ≤ c.length ∧ i = .int .i64 j ∧ OW 3 w.heap.size wr w.heap.size (c.length + 1) (tab (c.length + 1) fun i => nxt c k j i) ∧ Below w.heap.size w wr)
    (fun i _ => c.length - (intOf i).toNat)
  case atStart => exact ⟨0, by omega, rfl, How0.out, Hbel0.out⟩
  case round =>
    clear How0 Hbel0
    obtain ⟨j, hj, rfl, how, hbel⟩ := hrel
    have How := hd how
    have Hbel := hd hbel
    clear how hbel
    by_cases hlt : j < c.length
    · obtain ⟨q, b, off, hqx, rfl, hb, hqc⟩ := (Hh.out.below Hbel.out).at_ hlt
      have hbn : ¬ b = w.heap.size := by
        obtain ⟨_, b4, off4, _, he4, hb4, _⟩ := Hh.out.at_ hlt
        simp only [Option.some.injEq, Addr.mk.injEq, and_true] at he4
        omega
      have Hqx := hd hqx
      obtain ⟨hq1, hq2⟩ := Hc.out q (List.mem_of_getElem? hqx)
      obtain ⟨o, ho, hco⟩ := How.out.cell (k := j) (by omega)
      have hoe : o = nxt c k j j := by rw [tab_at _ (by omega)] at ho; injection ho with ho; exact ho.symm
      have Hoe := hd hoe
      have hob : -1000000 ≤ o ∧ o ≤ 1000000 := by rw [hoe]; exact nxt_bd Hc.out k j
      obtain ⟨ho1, ho2⟩ := hob
      obtain ⟨o', ho', hco'⟩ := How.out.cell (k := j + 1) (by omega)
      obtain rfl : o' = 0 := by rw [tab_at _ (by omega), nxt_next] at ho'; injection ho' with ho'; exact ho'.symm
      have hf1 := How.out.frozen j
      have hf2 := How.out.frozen (j + 1)
      have hm1 := mul_bd k q 7 1000000 (by decide) (by omega) (by omega) hq1 hq2
      obtain ⟨hm3, hm4⟩ := hm1
      have hj3 : (j : Int) + 1 < ((c.length + 1 : Nat) : Int) := by omega
      have hj4 : j < c.length + 1 := by omega
      have hj5 : j + 1 < c.length + 1 := by omega
      have hj6 : (j : Int) < (c.length : Int) + 1 := by omega
      have e1 : IntKind.i64.wrap ((j : Int) + 1) = (j : Int) + 1 := IntWalk.i64_in _ (by omega)
      have e2 : ((j : Int) + 1).toNat = j + 1 := by omega
      have e3 : IntKind.i64.wrap (0 + q) = 0 + q := IntWalk.i64_in _ (by omega)
      have e4 : IntKind.i64.wrap q = q := IntWalk.i64_in _ (by omega)
      have e5 : (0 : Int) ≤ (j : Int) + 1 := by omega
      have e6 : IntKind.i64.wrap ((k : Int) * q) = (k : Int) * q := IntWalk.i64_in _ (by omega)
      have e7 : IntKind.i64.wrap (o - (k : Int) * q) = o - (k : Int) * q := IntWalk.i64_in _ (by omega)
      clear hqx ho hoe ho'
      go_wp2
      go_region_law (fail)
      all_goals
        go_wp2
        go_region_law (fail)
        all_goals
          clear e1 e2 e3 e4 e5 e6 e7
          go_wp2
          go_roundw
          case rel => exact ⟨j + 1, by omega, by go_num, (by
            have h2 := (How.out.set (j + 1) q).set j (o - k * q)
            rw [Hoe.out, nxt_step c k (c.length + 1) j q Hqx.out hj5] at h2
            rw [Hoe.out]
            exact h2), ((Hbel.out.setCell (Nat.le_refl _) _).drew.setCell (Nat.le_refl _) _).drew⟩
          case measure => simp [intOf]; omega
    · obtain rfl : j = c.length := by omega
      have Hr : Hid (RetI 3 w.heap.size w (tms c k) (.returned (.slice (some ⟨w.heap.size, 0, none⟩) (c.length + 1) (c.length + 1))) wr) := hd (RetI.ow How.out (nxt_end c k) Hbel.out)
      clear How Hbel
      go_wp2
      go_ret
      exact Hr.out

theorem rsum_step2 {p : List Int} {j k : Nat} {d x : Int} (hd' : p[k]? = some d) (hx : (scf k)[j]? = some x) : rsum p j k + d * x = rsum p j (k + 1) := by
  rw [rsum, getD_of hd', getD_of hx]

theorem l2Times_n (n : Nat) (A : Option Addr) (cc : Nat) (c : List Int) (k : Nat) (w : World) (hn : c.length = n) (h : SI w A c) (hl : c.length ≤ 7) (hk : k ≤ 6) (hc : ∀ x ∈ c, -1000000 ≤ x ∧ x ≤ 1000000) :
    Calls Try.prog 78 #[.slice A n cc, .int .i64 k] w fun e w' => RetI 3 w.heap.size w (tms c k) e w' := by
  subst hn; exact l2Times_any A cc c k w h hl hk hc

theorem scf_next (k : Nat) : (tab (k + 2) fun i => ((tms (scf k) k).getD i 0).tdiv (k + 1)) = scf (k + 1) := by
  rw [scf]
  refine List.ext_getElem? fun i => ?_
  by_cases hi : i < k + 2
  · rw [tab_at _ hi, List.getElem?_map, List.getD_eq_getElem?_getD, List.getElem?_eq_getElem (by rw [tms_length, scf_length]; exact hi)]
    rfl
  · rw [List.getElem?_eq_none (by rw [tab_length]; omega), List.getElem?_eq_none (by rw [List.length_map, tms_length, scf_length]; omega)]

set_option maxHeartbeats 4000000 in
theorem sPowersOf_any (A : Option Addr) (c : Nat) (p : List Int) (w : World) (h : SI w A p) (hl : p.length ≤ 1000) :
    Calls Try.prog 27 #[.slice A p.length c] w fun e w' => RetI 3 w.heap.size w (powP p) e w' := by
  obtain ⟨i0, hi, hz0, hz1, hz2⟩ := info_parts infoI
  have Hh := hd h
  clear h
  cases hv : validP p
  · have Hf : Hid (powP p = []) := hd (by simp [powP, hv])
    go_enter Try.func27, Try.ntmps27
    go_wp2_with (at_make; refine wpList_make_full _ rfl _ _ 23 rfl w.heap.size 3 i0 (.int .i64 0) 1 Try.underlying23 hi hz0 hz1 .i64 .i64 _ _ p.length rfl rfl rfl rfl (by rw [hz2]; omega) (by unfold maxLen; omega) (Nat.le_refl _) ?_; intro w1 hown hgrow)
    have Hbel0 : Hid (Below w.heap.size w w1) := hd ((Below.refl _ _).grown hgrow (Nat.le_refl _) (by simp))
    clear hown hgrow
    go_wp2_with fail
    refine (sPolyValid_any A c p _ (Hh.out.below Hbel0.out)).mono ?_
    rintro e w' ⟨rfl, rfl⟩
    go_wp2
    go_ret
    exact RetI.lit Hf.out Hbel0.out
  · obtain ⟨h1, h7, hx⟩ := validP_iff.1 hv
    have Hf : Hid (powP p = tab p.length fun i => rsum p i p.length) := hd (by simp [powP, hv])
    have Hx := hd hx
    clear hx
    go_enter Try.func27, Try.ntmps27
    go_wp2_with (at_make; refine wpList_make_full _ rfl _ _ 23 rfl w.heap.size 3 i0 (.int .i64 0) 1 Try.underlying23 hi hz0 hz1 .i64 .i64 _ _ p.length rfl rfl rfl rfl (by rw [hz2]; omega) (by unfold maxLen; omega) (Nat.le_refl _) ?_; intro w1 hown hgrow)
    have how0 := OW.made hown (by omega)
    have hbel0 : Below w.heap.size w w1 := (Below.refl _ _).grown hgrow (Nat.le_refl _) (by simp)
    have hsz1 := how0.lt.2
    have How1 : Hid (OW 3 w.heap.size (w1.alloc (.cells #[.int .i64 720] 3)) w.heap.size p.length (tab p.length fun i => rsum p i 0)) := hd (by
      have := how0.below ((Below.refl _ _).alloc (Nat.le_refl _) (.cells #[.int .i64 720] 3))
      rwa [show (tab p.length fun i => rsum p i 0) = List.replicate p.length 0 by rw [← nxt_zero [] 0]; exact tab_ext fun i _ => by simp [rsum, nxt]])
    have Hlit : Hid (OwnI 3 (w.heap.size + 1) (w1.alloc (.cells #[.int .i64 720] 3)) (some ⟨w1.heap.size, 0, none⟩) 1 (scf 0)) := hd
      (OwnI.low ⟨by simp [scf], World.ownsRow_lit (base := w1.heap.size) (e := 3) (size := 1) w1 #[.int .i64 720] 1 (Nat.le_refl _) (by simp [maxLen]) rfl⟩ hsz1)
    have Hb0 := hd hbel0
    have Hbel1 := hd (hbel0.alloc (Nat.le_of_lt hsz1) (.cells #[.int .i64 720] 3))
    clear hown hgrow how0 hbel0
    go_wp2_with fail
    refine (sPolyValid_any A c p _ (Hh.out.below Hb0.out)).mono ?_
    rintro e w' ⟨rfl, rfl⟩
    go_wp2
    go_loopw [4, 5] (fun pr i wr => ∃ (k : Nat) (Ap : Option Addr) (cp : Nat), k ≤ p.length ∧ i = .int .i64 k ∧ pr = .slice Ap (k + 1) cp ∧ OW 3 w.heap.size wr w.heap.size p.length (tab p.length fun i => rsum p i k) ∧ OwnI 3 (w.heap.size + 1) wr Ap cp (scf k) ∧ Below w.heap.size w wr)
      (fun _ i _ => p.length - (intOf i).toNat)
    case atStart => exact ⟨0, _, _, by omega, rfl, rfl, How1.out, Hlit.out, Hbel1.out⟩
    case round =>
      clear How1 Hlit Hbel1 Hb0
      obtain ⟨k, Ap, cp, hk, rfl, rfl, how, hown, hbel⟩ := hrel
      have How := hd how
      have Hown := hd hown
      have Hbel := hd hbel
      clear how hown hbel
      by_cases hlt : k < p.length
      · have Hln := hd (scf_length k)
        obtain ⟨d, Hdx⟩ : ∃ d, Hid (p[k]? = some d) := ⟨p[k], hd (List.getElem?_eq_getElem hlt)⟩
        obtain ⟨hd1, hd2⟩ := Hx.out d (List.mem_of_getElem? Hdx.out)
        go_wp2
        go_loopw [6] (fun i wr => ∃ (j : Nat), j ≤ k + 1 ∧ i = .int .i64 j ∧ OW 3 w.heap.size wr w.heap.size p.length (tab p.length fun i => if i < j then rsum p i (k + 1) else rsum p i k) ∧ OwnI 3 (w.heap.size + 1) wr Ap cp (scf k) ∧ Below w.heap.size w wr)
          (fun i _ => k + 1 - (intOf i).toNat)
        case atStart => exact ⟨0, by omega, rfl, by simpa using How.out, Hown.out, Hbel.out⟩
        case round =>
          clear How Hown Hbel
          obtain ⟨j, hj, rfl, how, hown, hbel⟩ := hrel
          have How := hd how
          have Hown := hd hown
          have Hbel := hd hbel
          clear how hown hbel
          by_cases hjl : j < k + 1
          · obtain ⟨g, q, hqx, rfl, hqc, hqf⟩ := Hown.out.at_ (k := j) (by rw [Hln.out]; exact hjl)
            have Hqx := hd hqx
            obtain ⟨hq3, hq4⟩ := scf_bd k (by omega) q (List.mem_of_getElem? hqx)
            obtain ⟨d', b, off, hdx, rfl, hb, hc⟩ := (Hh.out.below Hbel.out).at_ hlt
            obtain rfl : d' = d := by have := Hdx.out; rw [hdx] at this; injection this
            obtain ⟨o, ho, hco⟩ := How.out.cell (k := j) (by omega)
            have hoe : o = rsum p j k := by rw [tab_at _ (by omega), if_neg (by omega)] at ho; injection ho with ho; exact ho.symm
            obtain ⟨ho1, ho2⟩ := rsum_bd Hx.out j k (by omega) (by omega)
            rw [← hoe] at ho1 ho2
            have Hoe := hd hoe
            have hfo := How.out.frozen j
            have hjp : j < p.length := by omega
            have hm2 := mul_bd d' q 100000 1000000 (by decide) hd1 hd2 hq3 hq4
            obtain ⟨hm5, hm6⟩ := hm2
            have Hst := hd (rsum_step2 (p := p) (j := j) (k := k) Hdx.out Hqx.out)
            have hgne : ¬ g = w.heap.size := by have := (Hown.out.2.lt g rfl).1; omega
            have ho3 : -1000000000000 ≤ o := by omega
            have ho4 : o ≤ 1000000000000 := by omega
            have w2 : IntKind.i64.wrap (d' * q) = d' * q := IntWalk.i64_in _ (by omega)
            have w3 : IntKind.i64.wrap (o + d' * q) = o + d' * q := IntWalk.i64_in _ (by omega)
            clear hqx ho hoe ho1 ho2 hdx
            go_wp2
            go_region_law (fail)
            all_goals
              clear w2 w3
              go_wp2
              go_roundw
              case rel =>
                refine ⟨j + 1, by omega, by go_num, ?_, ?_, (Hbel.out.setCell (Nat.le_refl _) _).drew⟩
                · have h2 := How.out.set j (o + d' * q)
                  rw [acc_step (fun i => rsum p i k) (fun i => rsum p i (k + 1)) _ (by rw [Hoe.out]; exact Hst.out) hjp] at h2
                  exact h2
                · exact (Hown.out.keep_lo (grown_set wr ⟨w.heap.size, j, none⟩ (.int .i64 (o + d' * q))) (fun r hr => by simp at hr; omega)).drew
              case measure => simp [intOf]; omega
          · obtain rfl : j = k + 1 := by omega
            have How2 : Hid (OW 3 w.heap.size wr w.heap.size p.length (tab p.length fun i => rsum p i (k + 1))) := hd (by
              have := How.out
              rwa [tab_ext (g := fun i => rsum p i (k + 1)) (fun i _ => by
                by_cases hi : i < k + 1
                · rw [if_pos hi]
                · rw [if_neg hi, rsum_high p (by omega)])] at this)
            have hszr : w.heap.size < wr.heap.size := How.out.lt.2
            obtain ⟨wm, hwm⟩ : ∃ x : World, x = wr := ⟨wr, rfl⟩
            subst hwm
            have Hsb : Hid (∀ x ∈ scf k, -1000000 ≤ x ∧ x ≤ 1000000) := hd (scf_bd k (by omega))
            have Hs7 : Hid ((scf k).length ≤ 7) := hd (by rw [Hln.out]; omega)
            clear How
            go_wp2_with fail
            refine (l2Times_n (k + 1) Ap cp (scf k) k _ Hln.out Hown.out.si Hs7.out (by omega) Hsb.out).mono ?_
            rintro e w2 ⟨A2, c2, rfl, own2, b2⟩
            have How2 := hd (How2.out.below b2)
            have Hbel2 := hd (Hbel.out.trans (b2.mono (Nat.le_of_lt hszr)))
            obtain ⟨T, HT⟩ : ∃ T, Hid (tms (scf k) k = T) := ⟨_, hd rfl⟩
            rw [HT.out] at own2 ⊢
            have HTl : Hid (T.length = k + 2) := hd (by rw [← HT.out, tms_length, scf_length])
            have HTb : Hid (∀ x ∈ T, -10000000 ≤ x ∧ x ≤ 10000000) := hd (by rw [← HT.out]; exact tms_scf_bd k (by omega))
            have HTe : Hid ((tab (k + 2) fun i => (T.getD i 0).tdiv (k + 1)) = scf (k + 1)) := hd (by rw [← HT.out]; exact scf_next k)
            have Hown2 : Hid (OwnI 3 (w.heap.size + 1) w2 A2 c2 (tab (k + 2) fun i => if i < 0 then (T.getD i 0).tdiv (k + 1) else T.getD i 0)) := hd (by
              have h2 := own2.low (show w.heap.size + 1 ≤ wm.heap.size by omega)
              rwa [show (tab (k + 2) fun i => if i < 0 then (T.getD i 0).tdiv ((k : Int) + 1) else T.getD i 0) = T by
                rw [tab_ext (g := fun i => T.getD i 0) (fun i _ => by rw [if_neg (by omega)]), ← HTl.out, tab_drop_eq]])
            rw [HTl.out]
            clear own2 b2 Hown Hbel
            go_wp2
            go_loopw [7] (fun i wr => ∃ (j : Nat), j ≤ k + 2 ∧ i = .int .i64 j ∧ OwnI 3 (w.heap.size + 1) wr A2 c2 (tab (k + 2) fun i => if i < j then (T.getD i 0).tdiv (k + 1) else T.getD i 0) ∧ OW 3 w.heap.size wr w.heap.size p.length (tab p.length fun i => rsum p i (k + 1)) ∧ Below w.heap.size w wr)
              (fun i _ => k + 2 - (intOf i).toNat)
            case atStart => exact ⟨0, by omega, rfl, Hown2.out, How2.out, Hbel2.out⟩
            case round =>
              clear Hown2 How2 Hbel2
              obtain ⟨j, hj, rfl, hown, how, hbel⟩ := hrel
              have How := hd how
              have Hown := hd hown
              have Hbel := hd hbel
              have Htl2 := hd (tab_length (k + 2) fun i => if i < j then (T.getD i 0).tdiv (k + 1) else T.getD i 0)
              clear how hown hbel
              by_cases hjl : j < k + 2
              · obtain ⟨g, q, hqx, rfl, hqc, hqf⟩ := Hown.out.at_ (k := j) (by rw [Htl2.out]; exact hjl)
                have hqe : q = T.getD j 0 := by rw [tab_at _ hjl, if_neg (by omega)] at hqx; injection hqx with hqx; exact hqx.symm
                have Hqe := hd hqe
                have hqb : -10000000 ≤ q ∧ q ≤ 10000000 := by
                  rw [hqe, List.getD_eq_getElem?_getD, List.getElem?_eq_getElem (by rw [HTl.out]; exact hjl)]
                  exact HTb.out _ (List.getElem_mem _)
                obtain ⟨hq1, hq2⟩ := hqb
                have hdv := tdiv_bd q 10000000 k hq1 hq2
                obtain ⟨hdv1, hdv2⟩ := hdv
                have hgB : w.heap.size + 1 ≤ g := (Hown.out.2.lt g rfl).1
                have w4 : IntKind.i64.wrap ((k : Int) + 1) = (k : Int) + 1 := IntWalk.i64_in _ (by omega)
                have w5 : IntKind.i64.wrap (q.tdiv ((k : Int) + 1)) = q.tdiv ((k : Int) + 1) := IntWalk.i64_in _ (by omega)
                have w6 : ¬ (k : Int) + 1 = 0 := by omega
                have w7 : ¬ (k : Int) + 1 = -1 := by omega
                clear hqx hqe
                go_wp2
                go_roundw
                case rel =>
                  refine ⟨j + 1, by omega, by go_num, ?_, How.out.grown (grown_set wr ⟨g, j, none⟩ _) (fun e => by simp at e; omega), Hbel.out.setCell (show w.heap.size ≤ g by omega) _⟩
                  have h2 := Hown.out.set j (q.tdiv (k + 1))
                  rw [acc_step (fun i => T.getD i 0) (fun i => (T.getD i 0).tdiv (k + 1)) _ (by rw [Hqe.out]) hjl] at h2
                  exact h2
                case measure => simp [intOf]; omega
              · obtain rfl : j = k + 2 := by omega
                have Hpn : Hid (OwnI 3 (w.heap.size + 1) wr A2 c2 (scf (k + 1))) := hd (by
                  have h2 := Hown.out
                  rwa [tab_ext (g := fun i => (T.getD i 0).tdiv (k + 1)) (fun i hi => by rw [if_pos hi]), HTe.out] at h2)
                clear Hown
                go_wp2
                go_roundw
                case rel => exact ⟨k + 1, _, _, by omega, by go_num, rfl, How.out, Hpn.out, Hbel.out⟩
                case measure => simp [intOf]; omega
      · obtain rfl : k = p.length := by omega
        have Hr : Hid (RetI 3 w.heap.size w (powP p) (.returned (.slice (some ⟨w.heap.size, 0, none⟩) p.length p.length)) wr) := hd (RetI.ow How.out Hf.out.symm Hbel.out)
        clear How Hown Hbel
        go_wp2
        go_ret
        exact Hr.out

end Go.Proofs.Ythoodhdcmckkpaa
