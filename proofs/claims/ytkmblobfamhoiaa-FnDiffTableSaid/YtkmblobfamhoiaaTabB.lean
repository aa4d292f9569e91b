/- The contracts of the reference's DiffTable and of what it calls. -/
import Derived.Test.YtkmblobfamhoiaaTabA
import Derived.Test.YtkmblobfamhoiaaGrF
namespace Go.Proofs.Ytkmblobfamhoiaa
open Go.RowKit
set_option maxRecDepth 4000

theorem lit_app {w w1 : World} {v1 : Value} {zs : List Int} (hl : 0 < zs.length) (hl2 : zs.length ≤ 17592186044416) (hown : w1.ownsRow w.heap.size 3 1 v1 (0 + zs.length) ([] ++ zs.map (Value.int .i64)))
    (hgrow : (w.alloc (.cells #[] 3)).grownBy w1 (some w.heap.size)) : ∃ A c, v1 = .slice A zs.length c ∧ OwnI 3 w.heap.size w1 A c zs ∧ Below w.heap.size w w1 := by
  have hbel : Below w.heap.size w w1 := ((Below.refl _ _).alloc (Nat.le_refl _) _).grown (row := some w.heap.size) hgrow (by simp) (by simp)
  simp only [Nat.zero_add, List.nil_append] at hown
  rcases hown.2 with ⟨_, h0⟩ | ⟨g, cap, cur, hv, h2⟩
  · omega
  · subst hv
    exact ⟨_, _, rfl, ⟨hl2, hown⟩, hbel⟩

theorem l2Raw_none (A : Option Addr) (c : Nat) (zs : List Int) (w : World) (h : SI w A zs) (hb : dtB zs = false) :
    Calls Try.prog 71 #[.slice A zs.length c] w fun e w' => RetT zs (dtN zs) w e w' := by
  have b0 := (Below.refl w.heap.size w).alloc (Nat.le_refl _) (.cells #[] 23)
  have Hh := hd (h.below b0)
  have Hb := hd hb
  have Hf : Hid (RetT zs (dtN zs) w (.returned (.slice (some ⟨w.heap.size, 0, none⟩) 0 0)) (w.alloc (.cells #[] 23))) := hd ⟨_, 0, [], by rw [dtN_no hb], by rw [dtN_no hb]; rfl, SR.nil_ _ _, RowsAt.nil _ _, b0⟩
  clear h hb b0
  go_enter Try.func71, Try.ntmps71
  go_wp2_with fail
  refine (l2Short_any A c zs false _ Hh.out Hb.out).mono ?_
  rintro e w' ⟨rfl, rfl⟩
  go_wp2
  go_ret
  exact Hf.out

set_option maxHeartbeats 3200000 in
theorem l2Raw_yes (A : Option Addr) (c : Nat) (zs : List Int) (w : World) (h : SI w A zs) (hb : dtB zs = true) :
    Calls Try.prog 71 #[.slice A zs.length c] w fun e w' => RetT zs (dtN zs) w e w' := by
  obtain ⟨i0, hi, hz0, hz1, hz2⟩ := info_parts infoL
  obtain ⟨i1, hi1, hy0, hy1, hy2⟩ := info_parts infoI
  have hbb : tabV zs = true ∧ zs.length ≤ 30 := by simpa [dtB] using hb
  obtain ⟨ht, h30⟩ := hbb
  have hpos : 0 < zs.length := (tabV_iff.1 ht).1
  obtain ⟨b, off, rfl, hbw⟩ := h.nonempty hpos
  have b0 := (Below.refl w.heap.size w).alloc (Nat.le_refl _) (.cells #[] 23)
  have Hh := hd (h.below b0)
  have Own0 := hd (OwnG.lit0 asV 23 w)
  have Hb := hd hb
  have Hn := hd (dtN_yes hb)
  have B0 := hd b0
  clear h hb ht b0
  rw [Hn.out]
  go_enter Try.func71, Try.ntmps71
  go_wp2_with fail
  refine (l2Short_any _ c zs true _ Hh.out Hb.out).mono ?_
  rintro e w0 ⟨rfl, hw0⟩
  rw [hw0] at Hh Own0 B0
  clear hw0
  have Hc := hd ((show SG (Value.int .i64) w0 _ zs from Hh.out).alloc (.cells #[] 3) |>.cells rfl)
  go_wp2_with (at_builtin; go_loud (refine wpList_append_own _ rfl _ _ 23 rfl w0.heap.size 3 i1 (.int .i64 0) 1 8 Try.underlying23 hi1 hy0 hy1 hy2 rfl (by decide) _ 0 [] rfl (World.ownsRow_made w0 #[] 0 (Nat.le_refl _) (by simp) (by simp)) ⟨b, off, none⟩ zs.length c (zs.map (Value.int .i64)) rfl (by simp) Hc.out (ints_one zs) (by unfold maxLen; omega) (by omega) (by simp) ?_; intro v1 w1 hown hgrow _; obtain ⟨A1, c1, rfl, own1, b1⟩ := lit_app hpos (by omega) hown hgrow; have Own1 := hd own1; have B1 := hd b1; clear hown hgrow own1 b1))
  have Bw := hd (B0.out.trans (B1.out.mono B0.out.size))
  have Own2 := hd (Own0.out.below B1.out)
  have Hof : Hid (∀ a, A1 = some a → (Value.slice (some ⟨w.heap.size, 0, none⟩) 0 0).ownBlock ≠ some a.block) := hd (fun a ha e => by
    have h1 := (Own0.out.lt e).2
    exact Own1.out.off h1 a ha rfl)
  have Hs1 := hd Own1.out.si
  clear Own0 B0 B1 Own1 Hc
  go_loopw [3, 4] (fun r row wr => ∃ (k : Nat) (A' : Option Addr) (c' : Nat) (A1 : Option Addr) (c1 : Nat) (Vs : List Value), k ≤ zs.length ∧ r = .slice A' k c' ∧ row = .slice A1 (nbrs k zs).length c1 ∧ SI wr A1 (nbrs k zs) ∧ (∀ a, A1 = some a → (Value.slice A' k c').ownBlock ≠ some a.block) ∧
      OwnG asV 23 w.heap.size wr A' c' Vs ∧ Vs.length = k ∧ RowsAt wr Vs zs ∧ RowsOff Vs (Value.slice A' k c').ownBlock ∧ Below w.heap.size w wr)
    (fun r _ _ => zs.length - sliceLen r)
  case atStart => exact ⟨0, _, 0, A1, c1, [], by omega, rfl, rfl, Hs1.out, Hof.out, Own2.out, rfl, RowsAt.nil _ _, RowsOff.nil _, Bw.out⟩
  case round =>
    clear Own2 Hof Hs1 Bw Hh
    obtain ⟨k, A', c', A1, c1, Vs, hk, rfl, rfl, hs, hoff, hown, hvl, hrows, hroff, hbel⟩ := hrel
    have Hs := hd hs
    have Hoff := hd hoff
    have Hown := hd hown
    have Hvl := hd hvl
    have Hr := hd hrows
    have Hro := hd hroff
    have Hbel := hd hbel
    clear hs hoff hown hvl hrows hroff hbel
    have Hln := hd (nbrs_length k zs)
    by_cases hlt : k < zs.length
    · have hpos2 : (0 : Int) < (nbrs k zs).length := by rw [Hln.out]; omega
      have Hrw : Hid (∀ a, A1 = some a → a.block < wr.heap.size) := hd (fun a ha => by
        obtain ⟨b, off, e, hb⟩ := Hs.out.nonempty (by rw [Hln.out]; omega)
        rw [ha] at e
        injection e with e
        rw [e]
        exact hb)
      have Hle := hd Hbel.out.size
      go_wp2_with (at_builtin; refine wpList_appL (f := asV) rfl _ _ 25 23 rfl w.heap.size i0 (.slice none 0 0) 24 Try.underlying25 hi hz0 hz1 hz2 rfl (by decide) k A' c' Vs wr.heap.size (.slice A1 (nbrs k zs).length c1) rfl rfl rfl Hvl.out (new_cell _ _ _) (Hown.out.alloc _) (by omega) (by have := Hle.out; simp; omega) ?_; intro A5 c5 w5 own5 gr5 at5 b5 hz5; have Own5 := hd own5; have Gr5 := hd gr5; have At5 := hd at5; have B5 := hd b5; clear own5 gr5 at5 b5 hz5)
      have Hs5 := hd ((Hs.out.below ((Below.refl wr.heap.size wr).alloc (Nat.le_refl _) (.cells #[.slice A1 (nbrs k zs).length c1] 23))).grownO Gr5.out Hoff.out)
      have Hof5 : Hid (∀ a, A1 = some a → (Value.slice A5 (k + 1) c5).ownBlock ≠ some a.block) := hd (fun a ha e => by
        rcases At5.out with h9 | h9
        · rw [h9] at e; exact Hoff.out a ha e
        · rw [h9] at e
          injection e with e
          have := Hrw.out a ha
          simp at e
          omega)
      have Hr5 := hd (((Hr.out.below ((Below.refl wr.heap.size wr).alloc (Nat.le_refl _) (.cells #[.slice A1 (nbrs k zs).length c1] 23))).grown Gr5.out Hro.out).snoc (c := c1) Hvl.out Hs5.out)
      have Hro5 : Hid (RowsOff (Vs ++ [Value.slice A1 (nbrs k zs).length c1]) (Value.slice A5 (k + 1) c5).ownBlock) := hd (by
        refine RowsOff.snoc ?_ Hof5.out
        rcases At5.out with h9 | h9
        · rw [h9]; exact Hro.out
        · rw [h9]; exact Hr.out.off_new (by rw [Hvl.out]; omega) (by simp))
      have Bw5 := hd ((Hbel.out.alloc Hle.out (.cells #[.slice A1 (nbrs k zs).length c1] 23)).trans B5.out)
      have HB2 := hd (nbrs_2e18 Hb.out hlt)
      have Hl5 : Hid ((Vs ++ [Value.slice A1 (nbrs k zs).length c1]).length = k + 1) := hd (by rw [List.length_append, Hvl.out]; rfl)
      clear Gr5 At5 B5
      go_wp2_with fail
      refine (l2Next_any A1 c1 (nbrs k zs) _ Hs5.out (by rw [Hln.out]; omega) HB2.out).mono ?_
      rintro e w6 ⟨A6, c6, rfl, hown6, b6⟩
      have Own6 : Hid (OwnI 3 w5.heap.size w6 A6 c6 (nbrs (k + 1) zs)) := hd hown6
      have Own56 := hd (Own5.out.below b6)
      have Hr6 := hd (Hr5.out.below b6)
      have Bw6 := hd (Bw5.out.trans (b6.mono Bw5.out.size))
      have Hof6 : Hid (∀ a, A6 = some a → (Value.slice A5 (k + 1) c5).ownBlock ≠ some a.block) := hd (fun a ha e => by
        have h1 := (Own5.out.lt (by rw [Hl5.out]; exact e)).2
        exact Own6.out.off h1 a ha rfl)
      clear hown6 b6
      go_wp2
      go_roundw
      case rel => exact ⟨k + 1, A5, c5, A6, c6, _, by omega, rfl, rfl, Own6.out.si, Hof6.out, Own56.out, Hl5.out, Hr6.out, Hro5.out, Bw6.out⟩
      case measure => simp [sliceLen]; omega
    · obtain rfl : k = zs.length := by omega
      have hz0' : ¬ (0 : Int) < (nbrs zs.length zs).length := by rw [Hln.out]; omega
      go_wp2
      go_ret
      exact ⟨_, _, Vs, rfl, Hvl.out, Hown.out.sg, Hr.out, Hbel.out⟩

set_option maxHeartbeats 3200000 in
theorem l9Own_any (A : Option Addr) (c m : Nat) (Vs : List Value) (zs : List Int) (w : World) (hl : Vs.length = m) (hm : m ≤ zs.length) (h30 : zs.length ≤ 100) (h : SG asV w A Vs) (hr : RowsAt w Vs zs) :
    Calls Try.prog 70 #[.slice A m c] w fun e w' => RetT zs m w e w' := by
  obtain ⟨i0, hi, hz0, hz1, hz2⟩ := info_parts infoL
  obtain ⟨i1, hi1, hy0, hy1, hy2⟩ := info_parts infoI
  have Hh := hd h
  have Hrr := hd hr
  have Hl := hd hl
  have Own0 := hd (OwnG.lit0 asV 23 w)
  have B0 := hd ((Below.refl w.heap.size w).alloc (Nat.le_refl _) (.cells #[] 23))
  clear h hr hl
  go_enter Try.func70, Try.ntmps70
  go_wp2
  go_loopw [3, 9] (fun r i wr => ∃ (k : Nat) (A' : Option Addr) (c' : Nat) (Ws : List Value), k ≤ m ∧ r = .slice A' k c' ∧ i = .int .i64 k ∧
      OwnG asV 23 w.heap.size wr A' c' Ws ∧ Ws.length = k ∧ RowsAt wr Ws zs ∧ RowsOff Ws (Value.slice A' k c').ownBlock ∧ Below w.heap.size w wr)
    (fun _ i _ => m - (intOf i).toNat)
  case atStart => exact ⟨0, _, 0, [], by omega, rfl, rfl, Own0.out, rfl, RowsAt.nil _ _, RowsOff.nil _, B0.out⟩
  case round =>
    clear Own0 B0
    obtain ⟨k, A', c', Ws, hk, rfl, rfl, hown, hvl, hrows, hroff, hbel⟩ := hrel
    have Hown := hd hown
    have Hvl := hd hvl
    have Hr := hd hrows
    have Hro := hd hroff
    have Hbel := hd hbel
    clear hown hvl hrows hroff hbel
    have Hln := hd (nbrs_length k zs)
    by_cases hlt : k < m
    · obtain ⟨V, b, off, hV, rfl, hbw, hc⟩ := (Hh.out.below Hbel.out).at_ (k := k) (by rw [Hl.out]; exact hlt)
      obtain ⟨A1, c1, rfl, hs1⟩ := Hrr.out k V hV
      have hnp : 0 < (nbrs k zs).length := by rw [Hln.out]; omega
      obtain ⟨b2, off2, rfl, hb2⟩ := hs1.nonempty hnp
      have Hs1 := hd (hs1.below Hbel.out)
      have hc : wr.cell? ⟨b, off + k, none⟩ = some (.slice (some ⟨b2, off2, none⟩) (nbrs k zs).length c1) := hc
      have e1 : (k : Int) < m := by omega
      have e2 : (0 : Int) ≤ k := by omega
      have Hle := hd Hbel.out.size
      have Hc := hd ((show SG (Value.int .i64) wr _ (nbrs k zs) from Hs1.out).alloc (.cells #[] 3) |>.cells rfl)
      have hl60 : (nbrs k zs).length ≤ 100 := by rw [Hln.out]; omega
      clear hV hs1
      go_wp2_with (first
        | (at_builtin; refine wpList_append_own _ rfl _ _ 23 rfl wr.heap.size 3 i1 (.int .i64 0) 1 8 Try.underlying23 hi1 hy0 hy1 hy2 rfl (by decide) _ 0 [] rfl (World.ownsRow_made wr #[] 0 (Nat.le_refl _) (by simp) (by simp)) ⟨b2, off2, none⟩ (nbrs k zs).length c1 ((nbrs k zs).map (Value.int .i64)) rfl (by simp) Hc.out (ints_one (nbrs k zs)) (by unfold maxLen; omega) (by omega) (by simp) ?_; intro v1 w1 hown hgrow _; obtain ⟨A6, c6, rfl, own6, b6⟩ := lit_app hnp (by omega) hown hgrow; have Own6 := hd own6; have B6 := hd b6; have Own2 := hd (Hown.out.below b6); have Hr2 := hd (Hr.out.below b6); have Bw2 := hd (Hbel.out.trans (b6.mono Hle.out)); have Hle2 := hd Bw2.out.size; clear hown hgrow own6 b6 hc)
        | (at_builtin; refine wpList_appL (f := asV) rfl _ _ 25 23 rfl w.heap.size i0 (.slice none 0 0) 24 Try.underlying25 hi hz0 hz1 hz2 rfl (by decide) k A' c' Ws w1.heap.size (.slice A6 (nbrs k zs).length c6) rfl rfl rfl Hvl.out (new_cell _ _ _) (Own2.out.alloc _) (by omega) (by have := Hle2.out; simp; omega) ?_; intro A5 c5 w5 own5 gr5 at5 b5 hz5; have Own5 := hd own5; have Gr5 := hd gr5; have At5 := hd at5; have B5 := hd b5; clear own5 gr5 at5 b5 hz5))
      have Hof2 : Hid (∀ a, A6 = some a → (Value.slice A' k c').ownBlock ≠ some a.block) := hd (fun a ha e => by
        have h1 := (Hown.out.lt (by rw [Hvl.out]; exact e)).2
        exact Own6.out.off h1 a ha rfl)
      have Hrw : Hid (∀ a, A6 = some a → a.block < w1.heap.size) := hd (fun a ha => by
        obtain ⟨b, off, e, hb⟩ := Own6.out.si.nonempty hnp
        rw [ha] at e
        injection e with e
        rw [e]
        exact hb)
      have Hs5 := hd ((Own6.out.si.below ((Below.refl w1.heap.size w1).alloc (Nat.le_refl _) (.cells #[.slice A6 (nbrs k zs).length c6] 23))).grownO Gr5.out Hof2.out)
      have Hof5 : Hid (∀ a, A6 = some a → (Value.slice A5 (k + 1) c5).ownBlock ≠ some a.block) := hd (fun a ha e => by
        rcases At5.out with h9 | h9
        · rw [h9] at e; exact Hof2.out a ha e
        · rw [h9] at e
          injection e with e
          have := Hrw.out a ha
          simp at e
          omega)
      have Hr5 := hd (((Hr2.out.below ((Below.refl w1.heap.size w1).alloc (Nat.le_refl _) (.cells #[.slice A6 (nbrs k zs).length c6] 23))).grown Gr5.out Hro.out).snoc (c := c6) Hvl.out Hs5.out)
      have Hro5 : Hid (RowsOff (Ws ++ [Value.slice A6 (nbrs k zs).length c6]) (Value.slice A5 (k + 1) c5).ownBlock) := hd (by
        refine RowsOff.snoc ?_ Hof5.out
        rcases At5.out with h9 | h9
        · rw [h9]; exact Hro.out
        · rw [h9]; exact Hr2.out.off_new (by rw [Hvl.out]; omega) (by simp))
      have Bw5 := hd ((Bw2.out.alloc Hle2.out (.cells #[.slice A6 (nbrs k zs).length c6] 23)).trans B5.out)
      have Hl5 : Hid ((Ws ++ [Value.slice A6 (nbrs k zs).length c6]).length = k + 1) := hd (by rw [List.length_append, Hvl.out]; rfl)
      clear Gr5 At5 B5
      go_wp2
      go_roundw
      case rel => exact ⟨k + 1, A5, c5, _, by omega, rfl, by go_num, Own5.out, Hl5.out, Hr5.out, Hro5.out, Bw5.out⟩
      case measure => simp [intOf] <;> omega
    · obtain rfl : k = m := by omega
      have e1 : ¬ (k : Int) < k := by omega
      go_wp2
      go_ret
      exact ⟨_, _, Ws, rfl, Hvl.out, Hown.out.sg, Hr.out, Hbel.out⟩

theorem dtN_le (zs : List Int) : dtN zs ≤ zs.length ∧ (dtN zs = 0 ∨ zs.length ≤ 30) := by
  cases hb : dtB zs
  · rw [dtN_no hb]; exact ⟨by omega, .inl rfl⟩
  · have : tabV zs = true ∧ zs.length ≤ 30 := by simpa [dtB] using hb
    rw [dtN_yes hb]; exact ⟨by omega, .inr this.2⟩

theorem sDiffTable_any (A : Option Addr) (c : Nat) (zs : List Int) (w : World) (h : SI w A zs) (h60 : zs.length ≤ 100) :
    Calls Try.prog 17 #[.slice A zs.length c] w fun e w' => RetT zs (dtN zs) w e w' := by
  have Hh := hd h
  have Hraw : Hid (Calls Try.prog 71 #[.slice A zs.length c] w fun e w' => RetT zs (dtN zs) w e w') := hd (by
    cases hb : dtB zs
    · exact l2Raw_none A c zs w h hb
    · exact l2Raw_yes A c zs w h hb)
  have Hm := hd (dtN_le zs).1
  clear h
  go_enter Try.func17, Try.ntmps17
  go_wp2_with fail
  refine Hraw.out.mono ?_
  rintro e w1 ⟨A1, c1, Vs, rfl, hl, hs, hr, b1⟩
  have Hl := hd hl
  have Hs := hd hs
  have Hr := hd hr
  have B1 := hd b1
  clear hl hs hr b1
  go_wp2_with fail
  refine (l9Own_any A1 c1 _ Vs zs _ Hl.out Hm.out h60 Hs.out Hr.out).mono ?_
  rintro e w2 ⟨A2, c2, Ws, rfl, hl2, hs2, hr2, b2⟩
  have Hl2 := hd hl2
  have Hs2 := hd hs2
  have Hr2 := hd hr2
  have B2 := hd (B1.out.trans (b2.mono B1.out.size))
  clear hl2 hs2 hr2 b2
  go_wp2
  go_ret
  exact ⟨A2, c2, Ws, rfl, Hl2.out, Hs2.out, Hr2.out, B2.out⟩

end Go.Proofs.Ytkmblobfamhoiaa
