/- Contracts of the program's functions on lists of columns: copies, turns. -/
import Derived.Test.YtcalheieakppmaaColO
import Derived.Lib.SliceRun
import Derived.Deep.RegionLaw
namespace Go.Proofs.Ytcalheieakppmaa
open Go.RowKit
set_option maxRecDepth 4000

set_option maxHeartbeats 400000 in
theorem CloneS_any (A : Option Addr) (c : Nat) (cs : List ByteArray) (w : World) (h : SS w A cs) (hn : 0 < cs.length) (hl : cs.length ≤ 1048576) :
    Calls Try.prog 104 #[.slice A cs.length c] w fun e w' => RetG Value.string 9 w.heap.size w cs e w' := by
  obtain ⟨i0, hi, hz0, hz1, hz2⟩ := info_parts infoS
  obtain ⟨b, off, rfl, hb⟩ := h.nonempty hn
  have Hh := hd h
  clear h
  have qT : ∀ (w : World) (a : Option Addr) (n c n' c' : Nat), (binOp .eql 27 (.slice a n c) (.slice none n' c')).run Try.prog w = .ok (.bool a.isNone) w := fun w a n c n' c' => Lib.run_eql_slice_nil w _ _ a n c n' c' Try.underlying27
  go_enter Try.func104, Try.ntmps104
  have Hc := hd ((Hh.out.alloc (.cells #[] 9)).cells rfl)
  go_wp2_with (at_builtin; refine wpList_append_own _ rfl _ _ 27 rfl w.heap.size 9 i0 (.string ByteArray.empty) 1 16 Try.underlying27 hi hz0 hz1 hz2 rfl (by decide) _ 0 [] rfl (World.ownsRow_made w #[] 0 (Nat.le_refl _) (by simp) (by simp)) ⟨b, off, none⟩ cs.length c (cs.map Value.string) rfl (by simp) Hc.out (strs_one cs) (by unfold maxLen; omega) (by omega) (by simp) ?_; intro v1 w1 hown hgrow _)
  have hbel : Below w.heap.size w w1 := ((Below.refl _ _).alloc (Nat.le_refl _) _).grown (row := some w.heap.size) hgrow (by simp) (by simp)
  have hr : RetG Value.string 9 w.heap.size w cs (.returned v1) w1 := by
    simp only [Nat.zero_add, List.nil_append] at hown
    rcases hown.2 with ⟨_, h0⟩ | ⟨g, cap, cur, hv, h2⟩
    · omega
    · subst hv
      exact ⟨_, _, rfl, ⟨by omega, hown⟩, hbel⟩
  have Hr := hd hr
  clear hr hown hgrow hbel
  go_wp2
  go_ret
  exact Hr.out

theorem CloneS_n (n : Nat) (A : Option Addr) (c : Nat) (cs : List ByteArray) (w : World) (hz : cs.length = n) (h : SS w A cs) (hn : 0 < cs.length) (hl : cs.length ≤ 1048576) :
    Calls Try.prog 104 #[.slice A n c] w fun e w' => RetG Value.string 9 w.heap.size w cs e w' := by
  subst hz; exact CloneS_any A c cs w h hn hl

/-- The columns from the first ones of us and the others of vs. -/
def mixV (us vs : List Int) (k : Nat) : List Int := us.take k ++ vs.drop k
theorem mixV_zero (us vs : List Int) : mixV us vs 0 = vs := by simp [mixV]
theorem mixV_length {us vs : List Int} (h : us.length = vs.length) (k : Nat) : (mixV us vs k).length = vs.length := by
  simp [mixV]; omega
theorem mixV_full {us vs : List Int} (h : us.length = vs.length) {k : Nat} (hk : vs.length ≤ k) : mixV us vs k = us := by
  rw [mixV, List.drop_eq_nil_of_le hk, List.take_of_length_le (by omega), List.append_nil]
theorem mixV_set {us vs : List Int} (h : us.length = vs.length) {k : Nat} {x : Int} (hx : us[k]? = some x) : (mixV us vs k).set k x = mixV us vs (k + 1) := by
  obtain ⟨hk, rfl⟩ := List.getElem?_eq_some_iff.1 hx
  refine List.ext_getElem? fun i => ?_
  rw [List.getElem?_set]
  have hl := mixV_length h k
  by_cases hi : k = i
  · subst hi
    rw [if_pos rfl, if_pos (by omega), mixV, List.getElem?_append_left (by simp; omega), List.getElem?_take_of_lt (by omega), List.getElem?_eq_getElem hk]
  · rw [if_neg hi, mixV, mixV]
    by_cases hlt : i < k
    · rw [List.getElem?_append_left (by simp; omega), List.getElem?_append_left (by simp; omega), List.getElem?_take_of_lt (by omega), List.getElem?_take_of_lt (by omega)]
    · rw [List.getElem?_append_right (by simp; omega), List.getElem?_append_right (by simp; omega), List.getElem?_drop, List.getElem?_drop]
      simp only [List.length_take]
      congr 1
      omega
theorem mixV_same {us vs : List Int} (h : us.length = vs.length) {k : Nat} (hx : us[k]? = vs[k]?) (hk : k < vs.length) : mixV us vs (k + 1) = mixV us vs k := by
  have e : us[k]? = some us[k] := List.getElem?_eq_getElem (by omega)
  rw [← mixV_set h e]
  refine List.ext_getElem? fun i => ?_
  rw [List.getElem?_set]
  by_cases hi : k = i
  · subst hi
    rw [if_pos rfl, if_pos (by rw [mixV_length h]; exact hk), mixV, List.getElem?_append_right (by simp; omega), List.getElem?_drop]
    simp only [List.length_take]
    rw [show k + (k - min k us.length) = k by omega, ← hx, e]
  · rw [if_neg hi]

theorem eng_set (W : Nat) (vs : List Int) (k : Nat) (x : Int) : (eng W vs).set k (showC W x) = eng W (vs.set k x) := by simp [eng, List.map_set]

set_option maxHeartbeats 1600000 in
theorem turnedOnce_any (W : Nat) (vs : List Int) (A : Option Addr) (c n : Nat) (w : World) (h : SS w A (eng W vs)) (h1 : 1 ≤ W) (h12 : W ≤ 12) (hn : vs.length = n) (hn1 : 1 ≤ n) (hn7 : n ≤ 7) :
    Calls Try.prog 125 #[.slice A n c] w fun e w' => RetG Value.string 9 w.heap.size w (eng W (manyV vs 1)) e w' := by
  have Hh := hd h
  have Hel : Hid ((eng W vs).length = n) := hd (by rw [eng_length, hn])
  have Hml : Hid ((manyV vs 1).length = vs.length) := hd (manyV_length vs 1)
  have Hn := hd hn
  clear h hn
  go_enter Try.func125, Try.ntmps125
  go_wp2_with fail
  refine (CloneS_n n A c (eng W vs) _ Hel.out Hh.out (by rw [Hel.out]; omega) (by rw [Hel.out]; omega)).mono ?_
  rintro e w1 ⟨A1, c1, rfl, own1, b1⟩
  obtain ⟨g, hA1, hg1, hg2⟩ := own1.addr (by rw [Hel.out]; omega)
  subst hA1
  have Own1 := hd own1
  have Bel1 := hd b1
  rw [Hel.out]
  clear own1 b1
  go_wp2
  go_loopw [4] (fun i wr => ∃ k : Nat, k + 1 ≤ n ∧ i = .int .i64 k ∧ OwnS 9 w.heap.size wr (some ⟨g, 0, none⟩) c1 (eng W (mixV (manyV vs 1) vs k)) ∧ Below w.heap.size w wr)
    (fun i _ => n - (intOf i).toNat)
  case atStart => exact ⟨0, by omega, rfl, by rw [mixV_zero]; exact Own1.out, Bel1.out⟩
  case round =>
    clear Own1 Bel1
    obtain ⟨k, hk, rfl, own, bel⟩ := hrel
    have Own := hd own
    have Bel := hd bel
    clear own bel
    by_cases hlt : k + 1 < n
    · have hx : vs[k]? = some (vs.getD k 0) := by rw [List.getD_eq_getElem?_getD, List.getElem?_eq_getElem (by have := Hn.out; omega)]; rfl
      have hy : vs[k + 1]? = some (vs.getD (k + 1) 0) := by rw [List.getD_eq_getElem?_getD, List.getElem?_eq_getElem (by have := Hn.out; omega)]; rfl
      obtain ⟨x, Hx⟩ : ∃ x, Hid (vs[k]? = some x) := ⟨_, hd hx⟩
      obtain ⟨y, Hy⟩ : ∃ y, Hid (vs[k + 1]? = some y) := ⟨_, hd hy⟩
      clear hx hy
      obtain ⟨s1, b, off, hs1, rfl, hb, hc1⟩ := (Hh.out.below Bel.out).at_ (k := k) (by rw [Hel.out]; omega)
      obtain ⟨s2, b', off', hs2, he, hb', hc2⟩ := (Hh.out.below Bel.out).at_ (k := k + 1) (by rw [Hel.out]; omega)
      simp only [Option.some.injEq, Addr.mk.injEq, and_true] at he
      obtain ⟨rfl, rfl⟩ := he
      obtain rfl : s1 = showC W x := by rw [eng_at Hx.out] at hs1; injection hs1 with hs1; exact hs1.symm
      obtain rfl : s2 = showC W y := by rw [eng_at Hy.out] at hs2; injection hs2 with hs2; exact hs2.symm
      clear hs1 hs2
      have Hlx : Hid (k < (eng W (mixV (manyV vs 1) vs k)).length) := hd (by rw [eng_length, mixV_length Hml.out, Hn.out]; omega)
      have e1 : IntKind.i64.wrap ((k : Int) + 1) = (k : Int) + 1 := IntWalk.i64_in _ (by omega)
      have e2 : ((k : Int) + 1).toNat = k + 1 := by omega
      have e3 : (0 : Int) ≤ (k : Int) + 1 := by omega
      have e4 : (k : Int) + 1 < n := by omega
      have e5 : k < n := by omega
      go_wp2
      go_region_law ((go_simp; go_at_call 56; refine (AddColumns_c W x y _ h1 h12).mono ?_; rintro e w2 ⟨rfl, b2⟩; have Own2 := hd (Own.out.drew.below b2); have Bel2 := hd (Bel.out.drew.trans (b2.mono Bel.out.size)); obtain ⟨g', o, ho, hg', hco, hfo⟩ := Own2.out.at_ (k := k) Hlx.out; simp only [Option.some.injEq, Addr.mk.injEq, and_true] at hg'; subst hg'; clear b2 ho))
      all_goals
        clear e1 e2 e3 e4 e5
        have Own3 := hd (Own2.out.set k (showC W (x + y)))
        have Bel3 := hd (Bel2.out.setCell (p := ⟨g, k, none⟩) hg1 (.string (showC W (x + y))))
        have Hnx : Hid ((eng W (mixV (manyV vs 1) vs k)).set k (showC W (x + y)) = eng W (mixV (manyV vs 1) vs (k + 1))) := hd (by
          rw [eng_set, mixV_set Hml.out (manyV_one_at Hx.out Hy.out)])
        go_wp2
        go_roundw
        case rel => exact ⟨k + 1, by omega, by go_num, by rw [← Hnx.out]; exact Own3.out, Bel3.out⟩
        case measure => simp [intOf]; omega
    · have Hf : Hid (mixV (manyV vs 1) vs k = manyV vs 1) := hd (by
        have hn := Hn.out
        rw [← mixV_same Hml.out (manyV_last 1 (by omega)) (by omega)]
        exact mixV_full Hml.out (by omega))
      have Hl2 : Hid ((eng W (manyV vs 1)).length = n) := hd (by rw [eng_length, Hml.out, Hn.out])
      rw [Hf.out] at Own
      go_wp2
      go_ret
      exact RetG.own Own.out Hl2.out.symm Bel.out

end Go.Proofs.Ytcalheieakppmaa
