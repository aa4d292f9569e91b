/- Contracts of the program's functions on lists of columns: turns back, many turns, halves of turns. -/
import Derived.Test.YtcalheieakppmaaColP
namespace Go.Proofs.Ytcalheieakppmaa
open Go.RowKit
set_option maxRecDepth 4000

theorem mixV_back {us vs : List Int} (h : us.length = vs.length) {k : Nat} {x : Int} (hx : us[k]? = some x) : (mixV vs us (k + 1)).set k x = mixV vs us k := by
  obtain ⟨hk, rfl⟩ := List.getElem?_eq_some_iff.1 hx
  refine List.ext_getElem? fun i => ?_
  rw [List.getElem?_set]
  have hl := mixV_length h.symm (k + 1)
  by_cases hi : k = i
  · subst hi
    rw [if_pos rfl, if_pos (by omega), mixV, List.getElem?_append_right (by simp; omega), List.getElem?_drop]
    simp only [List.length_take]
    rw [show k + (k - min k vs.length) = k by omega, List.getElem?_eq_getElem hk]
  · rw [if_neg hi, mixV, mixV]
    by_cases hlt : i < k
    · rw [List.getElem?_append_left (by simp; omega), List.getElem?_append_left (by simp; omega), List.getElem?_take_of_lt (by omega), List.getElem?_take_of_lt (by omega)]
    · rw [List.getElem?_append_right (by simp; omega), List.getElem?_append_right (by simp; omega), List.getElem?_drop, List.getElem?_drop]
      simp only [List.length_take]
      congr 1
      omega

theorem mixV_at {us vs : List Int} {k i : Nat} (h : us.length = vs.length) (hi : k ≤ i) : (mixV vs us k)[i]? = us[i]? := by
  by_cases hk : k ≤ vs.length
  · rw [mixV, List.getElem?_append_right (by simp; omega), List.getElem?_drop]
    simp only [List.length_take]
    congr 1
    omega
  · rw [List.getElem?_eq_none (by rw [mixV_length h.symm]; omega), List.getElem?_eq_none (by omega)]

theorem mixV_start {us vs : List Int} (h : us.length = vs.length) {k : Nat} (hk : k + 1 = vs.length) (he : us[k]? = vs[k]?) : mixV vs us k = vs := by
  refine List.ext_getElem? fun i => ?_
  by_cases hi : k ≤ i
  · rw [mixV_at h hi]
    by_cases hik : i = k
    · rw [hik, he]
    · rw [List.getElem?_eq_none (by omega), List.getElem?_eq_none (by omega)]
  · rw [mixV, List.getElem?_append_left (by simp; omega), List.getElem?_take_of_lt (by omega)]

set_option maxHeartbeats 1600000 in
theorem turnedBack_any (W : Nat) (vs : List Int) (A : Option Addr) (c n : Nat) (w : World) (h : SS w A (eng W vs)) (h1 : 1 ≤ W) (h12 : W ≤ 12) (hn : vs.length = n) (hn1 : 1 ≤ n) (hn7 : n ≤ 7) :
    Calls Try.prog 123 #[.slice A n c] w fun e w' => RetG Value.string 9 w.heap.size w (eng W (manyV vs (-1))) e w' := by
  have Hh := hd h
  have Hel : Hid ((eng W vs).length = n) := hd (by rw [eng_length, hn])
  obtain ⟨us, Hus⟩ : ∃ us, Hid (manyV vs (-1) = us) := ⟨_, hd rfl⟩
  rw [Hus.out]
  have Hul : Hid (us.length = vs.length) := hd (by rw [← Hus.out, manyV_length])
  have Hn := hd hn
  clear h hn
  go_enter Try.func123, Try.ntmps123
  go_wp2_with fail
  refine (CloneS_n n A c (eng W vs) _ Hel.out Hh.out (by rw [Hel.out]; omega) (by rw [Hel.out]; omega)).mono ?_
  rintro e w1 ⟨A1, c1, rfl, own1, b1⟩
  obtain ⟨g, hA1, hg1, hg2⟩ := own1.addr (by rw [Hel.out]; omega)
  subst hA1
  have Own1 := hd own1
  have Bel1 := hd b1
  rw [Hel.out]
  clear own1 b1
  go_wp2
  go_loopw [4] (fun i wr => ∃ k : Nat, k + 1 ≤ n ∧ i = .int .i64 ((k : Int) - 1) ∧ OwnS 9 w.heap.size wr (some ⟨g, 0, none⟩) c1 (eng W (mixV vs us k)) ∧ Below w.heap.size w wr)
    (fun i _ => (intOf i + 1).toNat)
  case atStart => exact ⟨n - 1, by omega, by go_num, by
    rw [mixV_start Hul.out (by have := Hn.out; omega) (by rw [← Hus.out]; exact manyV_last (-1) (by have := Hn.out; omega))]; exact Own1.out, Bel1.out⟩
  case round =>
    clear Own1 Bel1
    obtain ⟨k, hk, rfl, own, bel⟩ := hrel
    have Own := hd own
    have Bel := hd bel
    clear own bel
    by_cases hk0 : 0 < k
    · obtain ⟨l, rfl⟩ : ∃ l, k = l + 1 := ⟨k - 1, by omega⟩
      have ei : ((l + 1 : Nat) : Int) - 1 = (l : Int) := by omega
      rw [ei]
      have hn := Hn.out
      obtain ⟨x, Hx⟩ : ∃ x, Hid (vs[l]? = some x) := ⟨vs[l], hd (List.getElem?_eq_getElem (by omega))⟩
      obtain ⟨y, Hy⟩ : ∃ y, Hid (us[l + 1]? = some y) := ⟨us[l + 1]'(by rw [Hul.out]; omega), hd (List.getElem?_eq_getElem (by rw [Hul.out]; omega))⟩
      have Hxy : Hid (us[l]? = some (x - y)) := hd (by
        have h2 := Hy.out
        rw [← Hus.out] at h2 ⊢
        exact manyV_back_at Hx.out h2)
      clear hn ei
      obtain ⟨s1, b, off, hs1, rfl, hb, hc1⟩ := (Hh.out.below Bel.out).at_ (k := l) (by rw [Hel.out]; omega)
      obtain rfl : s1 = showC W x := by rw [eng_at Hx.out] at hs1; injection hs1 with hs1; exact hs1.symm
      obtain ⟨g', s2, hs2, hg', hc2, hf2⟩ := Own.out.at_ (k := l + 1) (by rw [eng_length, mixV_length Hul.out.symm, Hul.out, Hn.out]; omega)
      simp only [Option.some.injEq, Addr.mk.injEq, and_true] at hg'
      subst hg'
      obtain rfl : s2 = showC W y := by
        rw [eng_at (vs := mixV vs us (l + 1)) (x := y) (by rw [mixV_at Hul.out (Nat.le_refl _)]; exact Hy.out)] at hs2
        injection hs2 with hs2; exact hs2.symm
      clear hs1 hs2
      have Hlx : Hid (l < (eng W (mixV vs us (l + 1))).length) := hd (by rw [eng_length, mixV_length Hul.out.symm, Hul.out, Hn.out]; omega)
      have e1 : IntKind.i64.wrap ((l : Int) + 1) = (l : Int) + 1 := IntWalk.i64_in _ (by omega)
      have e2 : ((l : Int) + 1).toNat = l + 1 := by omega
      have e3 : (0 : Int) ≤ (l : Int) + 1 := by omega
      have e4 : (l : Int) + 1 < n := by omega
      have e5 : l < n := by omega
      go_wp2
      go_region_law ((go_simp; go_at_call 152; refine (SubtractColumns_c W x y _ h1 h12).mono ?_; rintro e w2 ⟨rfl, b2⟩; have Own2 := hd (Own.out.drew.below b2); have Bel2 := hd (Bel.out.drew.trans (b2.mono Bel.out.size)); obtain ⟨g', o, ho, hg', hco, hfo⟩ := Own2.out.at_ (k := l) Hlx.out; simp only [Option.some.injEq, Addr.mk.injEq, and_true] at hg'; subst hg'; clear b2 ho))
      all_goals
        clear e1 e2 e3 e4 e5
        have Own3 := hd (Own2.out.set l (showC W (x - y)))
        have Bel3 := hd (Bel2.out.setCell (p := ⟨g, l, none⟩) hg1 (.string (showC W (x - y))))
        have Hnx : Hid ((eng W (mixV vs us (l + 1))).set l (showC W (x - y)) = eng W (mixV vs us l)) := hd (by
          rw [eng_set, mixV_back Hul.out Hxy.out])
        go_wp2
        go_roundw
        case rel => exact ⟨l, by omega, by go_num, by rw [← Hnx.out]; exact Own3.out, Bel3.out⟩
        case measure => simp [intOf] <;> omega
    · obtain rfl : k = 0 := by omega
      have Hf : Hid (mixV vs us 0 = us) := hd (by simp [mixV])
      have Hl2 : Hid ((eng W us).length = n) := hd (by rw [eng_length, Hul.out, Hn.out])
      rw [Hf.out] at Own
      go_wp2
      go_ret
      exact RetG.own Own.out Hl2.out.symm Bel.out

set_option maxHeartbeats 1600000 in
theorem turnedMany_any (W : Nat) (vs : List Int) (N : Int) (A : Option Addr) (c n : Nat) (w : World) (h : SS w A (eng W vs)) (h1 : 1 ≤ W) (h12 : W ≤ 12) (hn : vs.length = n) (hn1 : 1 ≤ n) (hn7 : n ≤ 7) (hN1 : -1000 ≤ N) (hN2 : N ≤ 1000) :
    Calls Try.prog 105 #[.slice A n c, .int .i64 N] w fun e w' => RetG Value.string 9 w.heap.size w (eng W (manyV vs N)) e w' := by
  have Hh := hd h
  have Hel : Hid ((eng W vs).length = n) := hd (by rw [eng_length, hn])
  have Hn := hd hn
  clear h hn
  go_enter Try.func105, Try.ntmps105
  go_wp2_with fail
  refine (CloneS_n n A c (eng W vs) _ Hel.out Hh.out (by rw [Hel.out]; omega) (by rw [Hel.out]; omega)).mono ?_
  rintro e w1 ⟨A1, c1, rfl, own1, b1⟩
  have Own1 : Hid (OwnS 9 w.heap.size w1 A1 c1 (eng W (manyV vs 0))) := hd (by rw [manyV_zero]; exact own1)
  have Bel1 := hd b1
  rw [Hel.out]
  clear own1 b1
  go_wp2
  go_loopw [1, 5] (fun m r wr => ∃ (k : Int) (A' : Option Addr) (c' : Nat), k ≤ 1000 ∧ (0 < N → 0 ≤ k) ∧ (N ≤ 0 → k = N) ∧ m = .int .i64 k ∧ r = .slice A' n c' ∧ OwnS 9 w.heap.size wr A' c' (eng W (manyV vs (N - k))) ∧ Below w.heap.size w wr)
    (fun m _ _ => (intOf m).toNat)
  case atStart => exact ⟨N, A1, c1, hN2, by omega, by omega, rfl, rfl, by rw [Int.sub_self]; exact Own1.out, Bel1.out⟩
  case round =>
    clear Own1 Bel1
    obtain ⟨k, A', c', hk, hk0, hk1, rfl, rfl, own, bel⟩ := hrel
    have Own := hd own
    have Bel := hd bel
    have Hk0 := hd hk0
    have Hk1 := hd hk1
    clear own bel hk0 hk1
    have hkN : -1000 ≤ k := by have h2 := Hk0.out; have h3 := Hk1.out; omega
    by_cases hpos : 0 < k
    · go_wp2_with fail
      refine (turnedOnce_any W (manyV vs (N - k)) A' c' n _ Own.out.sg h1 h12 (by rw [manyV_length]; exact Hn.out) hn1 hn7).mono ?_
      rintro e w2 ⟨A2, c2, rfl, own2, b2⟩
      have Hl2 : Hid ((eng W (manyV (manyV vs (N - k)) 1)).length = n) := hd (by rw [eng_length, manyV_length, manyV_length, Hn.out])
      have Own2 : Hid (OwnS 9 w.heap.size w2 A2 c2 (eng W (manyV vs (N - (k - 1))))) := hd (by
        have := own2.low Bel.out.size
        rwa [manyV_manyV, show 1 + (N - k) = N - (k - 1) by omega] at this)
      have Bel2 := hd (Bel.out.trans (b2.mono Bel.out.size))
      rw [Hl2.out]
      clear own2 b2
      go_wp2
      go_roundw
      case rel => exact ⟨k - 1, A2, c2, by omega, by omega, by have := Hk1.out; omega, rfl, rfl, Own2.out, Bel2.out⟩
      case measure => simp [intOf] <;> omega
    · have hk2 : N ≤ 0 ∨ k = 0 := by have h2 := Hk0.out; omega
      have hk3 : k ≤ 0 := by omega
      go_wp2
      go_loopw [1, 5] (fun m r wr => ∃ (l : Int) (A' : Option Addr) (c' : Nat), k ≤ l ∧ l ≤ 0 ∧ m = .int .i64 l ∧ r = .slice A' n c' ∧ OwnS 9 w.heap.size wr A' c' (eng W (manyV vs (N - l))) ∧ Below w.heap.size w wr)
        (fun m _ _ => (-intOf m).toNat)
      case atStart => exact ⟨k, A', c', by omega, hk3, rfl, rfl, Own.out, Bel.out⟩
      case round =>
        clear Own Bel
        obtain ⟨l, A', c', hl1, hl2, rfl, rfl, own, bel⟩ := hrel
        have Own := hd own
        have Bel := hd bel
        clear own bel
        by_cases hneg : l < 0
        · go_wp2_with fail
          refine (turnedBack_any W (manyV vs (N - l)) A' c' n _ Own.out.sg h1 h12 (by rw [manyV_length]; exact Hn.out) hn1 hn7).mono ?_
          rintro e w2 ⟨A2, c2, rfl, own2, b2⟩
          have Hl2 : Hid ((eng W (manyV (manyV vs (N - l)) (-1))).length = n) := hd (by rw [eng_length, manyV_length, manyV_length, Hn.out])
          have Own2 : Hid (OwnS 9 w.heap.size w2 A2 c2 (eng W (manyV vs (N - (l + 1))))) := hd (by
            have := own2.low Bel.out.size
            rwa [manyV_manyV, show -1 + (N - l) = N - (l + 1) by omega] at this)
          have Bel2 := hd (Bel.out.trans (b2.mono Bel.out.size))
          rw [Hl2.out]
          clear own2 b2
          go_wp2
          go_roundw
          case rel => exact ⟨l + 1, A2, c2, by omega, by omega, rfl, rfl, Own2.out, Bel2.out⟩
          case measure => simp [intOf] <;> omega
        · obtain rfl : l = 0 := by omega
          have Hl2 : Hid ((eng W (manyV vs N)).length = n) := hd (by rw [eng_length, manyV_length, Hn.out])
          rw [Int.sub_zero] at Own
          go_wp2
          go_ret
          exact RetG.own Own.out Hl2.out.symm Bel.out

set_option maxHeartbeats 1600000 in
theorem turnedHalf_any (W f : Nat) (vs : List Int) (A : Option Addr) (c n : Nat) (w : World) (h : SS w A (eng W vs)) (h1 : 1 ≤ W) (h12 : W ≤ 12) (hn : vs.length = n) (hn1 : 1 ≤ n) (hn7 : n ≤ 7) (hf : f ≤ 1) :
    Calls Try.prog 116 #[.slice A n c, .int .i64 f] w fun e w' => RetG Value.string 9 w.heap.size w (eng W (halfV f vs)) e w' := by
  have Hh := hd h
  have Hel : Hid ((eng W vs).length = n) := hd (by rw [eng_length, hn])
  obtain ⟨us, Hus⟩ : ∃ us, Hid (halfV f vs = us) := ⟨_, hd rfl⟩
  rw [Hus.out]
  have Hul : Hid (us.length = vs.length) := hd (by rw [← Hus.out, halfV_length])
  have Hn := hd hn
  have Hst : Hid (mixV us vs f = vs) := hd (by
    rcases Nat.eq_zero_or_pos f with h0 | h0
    · subst h0; exact mixV_zero _ _
    · obtain rfl : f = 1 := by omega
      rw [mixV_same Hul.out (by rw [← Hus.out, halfV_at (by omega), if_neg (by decide), List.getD_eq_getElem?_getD, List.getElem?_eq_getElem (by omega)]; rfl) (by omega)]
      exact mixV_zero _ _)
  clear h hn
  go_enter Try.func116, Try.ntmps116
  go_wp2_with fail
  refine (CloneS_n n A c (eng W vs) _ Hel.out Hh.out (by rw [Hel.out]; omega) (by rw [Hel.out]; omega)).mono ?_
  rintro e w1 ⟨A1, c1, rfl, own1, b1⟩
  obtain ⟨g, hA1, hg1, hg2⟩ := own1.addr (by rw [Hel.out]; omega)
  subst hA1
  have Own1 := hd own1
  have Bel1 := hd b1
  rw [Hel.out]
  clear own1 b1
  go_wp2
  go_loopw [6] (fun i wr => ∃ k : Nat, k ≤ n + 1 ∧ i = .int .i64 k ∧ k % 2 = f ∧ OwnS 9 w.heap.size wr (some ⟨g, 0, none⟩) c1 (eng W (mixV us vs k)) ∧ Below w.heap.size w wr)
    (fun i _ => n + 1 - (intOf i).toNat)
  case atStart => exact ⟨f, by omega, rfl, by omega, by rw [Hst.out]; exact Own1.out, Bel1.out⟩
  case round =>
    clear Own1 Bel1
    obtain ⟨k, hk, rfl, hkf, own, bel⟩ := hrel
    have Own := hd own
    have Bel := hd bel
    have Hkf := hd hkf
    clear own bel hkf
    by_cases hlt : k + 1 < n
    · have hn := Hn.out
      obtain ⟨x, Hx⟩ : ∃ x, Hid (vs[k]? = some x) := ⟨vs[k], hd (List.getElem?_eq_getElem (by omega))⟩
      obtain ⟨y, Hy⟩ : ∃ y, Hid (vs[k + 1]? = some y) := ⟨vs[k + 1], hd (List.getElem?_eq_getElem (by omega))⟩
      have Hxy : Hid (us[k]? = some (x + y)) := hd (by
        rw [← Hus.out, halfV_at (by omega), if_pos Hkf.out, getD_at Hx.out, getD_at Hy.out])
      have Hy2 : Hid (us[k + 1]? = vs[k + 1]?) := hd (by
        rw [← Hus.out, halfV_at (by omega), if_neg (by have := Hkf.out; omega), getD_at Hy.out, Hy.out])
      clear hn
      obtain ⟨s1, b, off, hs1, rfl, hb, hc1⟩ := (Hh.out.below Bel.out).at_ (k := k) (by rw [Hel.out]; omega)
      obtain ⟨s2, b', off', hs2, he, hb', hc2⟩ := (Hh.out.below Bel.out).at_ (k := k + 1) (by rw [Hel.out]; omega)
      simp only [Option.some.injEq, Addr.mk.injEq, and_true] at he
      obtain ⟨rfl, rfl⟩ := he
      obtain rfl : s1 = showC W x := by rw [eng_at Hx.out] at hs1; injection hs1 with hs1; exact hs1.symm
      obtain rfl : s2 = showC W y := by rw [eng_at Hy.out] at hs2; injection hs2 with hs2; exact hs2.symm
      clear hs1 hs2
      have Hlx : Hid (k < (eng W (mixV us vs k)).length) := hd (by rw [eng_length, mixV_length Hul.out, Hn.out]; omega)
      have e1 : IntKind.i64.wrap ((k : Int) + 1) = (k : Int) + 1 := IntWalk.i64_in _ (by omega)
      have e2 : ((k : Int) + 1).toNat = k + 1 := by omega
      have e3 : (0 : Int) ≤ (k : Int) + 1 := by omega
      have e4 : (k : Int) + 1 < n := by omega
      have e5 : k < n := by omega
      go_wp2
      go_region_law ((go_simp; go_at_call 56; refine (AddColumns_c W x y _ h1 h12).mono ?_; rintro e w2 ⟨rfl, b2⟩; have Own2 := hd (Own.out.drew.below b2); have Bel2 := hd (Bel.out.drew.trans (b2.mono Bel.out.size)); obtain ⟨g', o, ho, hg', hco, hfo⟩ := Own2.out.at_ (k := k) Hlx.out; simp only [Option.some.injEq, Addr.mk.injEq, and_true] at hg'; subst hg'; clear b2 ho))
      all_goals
        clear e1 e2 e3 e4 e5
        have Own3 := hd (Own2.out.set k (showC W (x + y)))
        have Bel3 := hd (Bel2.out.setCell (p := ⟨g, k, none⟩) hg1 (.string (showC W (x + y))))
        have Hnx : Hid ((eng W (mixV us vs k)).set k (showC W (x + y)) = eng W (mixV us vs (k + 2))) := hd (by
          rw [eng_set, mixV_set Hul.out Hxy.out, ← mixV_same Hul.out Hy2.out (by have := Hn.out; omega)])
        go_wp2
        go_roundw
        case rel => exact ⟨k + 2, by omega, by go_num, by have := Hkf.out; omega, by rw [← Hnx.out]; exact Own3.out, Bel3.out⟩
        case measure => simp [intOf] <;> omega
    · have Hf : Hid (mixV us vs k = us) := hd (by
        have hn := Hn.out
        by_cases hkn : k < n
        · rw [← mixV_same Hul.out (by rw [← Hus.out, halfV_at (by omega), if_pos Hkf.out, getD_none (i := k + 1) (by omega), Int.add_zero, List.getD_eq_getElem?_getD, List.getElem?_eq_getElem (by omega)]; rfl) (by omega)]
          exact mixV_full Hul.out (by omega)
        · exact mixV_full Hul.out (by omega))
      have Hl2 : Hid ((eng W us).length = n) := hd (by rw [eng_length, Hul.out, Hn.out])
      rw [Hf.out] at Own
      go_wp2
      go_ret
      exact RetG.own Own.out Hl2.out.symm Bel.out

end Go.Proofs.Ytcalheieakppmaa
