/- Contracts of the reference's functions on engines: turns back. -/
import Derived.Test.YtkmblobfamhoiaaGrG
namespace Go.Proofs.Ytkmblobfamhoiaa
open Go.RowKit
set_option maxRecDepth 4000

set_option maxHeartbeats 3200000 in
theorem l3Undo_any (W : Nat) (vs : List Int) (A : Option Addr) (c n : Nat) (w : World) (h : SS w A (eng W vs)) (h1 : 1 ≤ W) (h12 : W ≤ 12) (hn : vs.length = n) (hn1 : 1 ≤ n) (hn7 : n ≤ 7) :
    Calls Try.prog 144 #[.agg #[.slice A n c]] w fun e w' => RetE 9 w.heap.size w (eng W (manyV vs (-1))) e w' := by
  have Hh := hd h
  have Hel : Hid ((eng W vs).length = n) := hd (by rw [eng_length, hn])
  obtain ⟨us, Hus⟩ : ∃ us, Hid (manyV vs (-1) = us) := ⟨_, hd rfl⟩
  rw [Hus.out]
  have Hul : Hid (us.length = vs.length) := hd (by rw [← Hus.out, manyV_length])
  have Hn := hd hn
  have F0 := hd (Fr.start w (.slice A n c) (.slice none 0 0) 36 36)
  clear h hn
  go_enter Try.func144, Try.ntmps144
  go_wp2_with fail
  refine (l3Copy_any A c n (eng W vs) _ ((Hh.out.alloc _).alloc _) Hel.out hn1 (by omega)).mono ?_
  rintro e w1 ⟨A1, c1, rfl, own1, b1⟩
  obtain ⟨g, hA1, hg1, hg2⟩ := own1.addr (by rw [Hel.out]; omega)
  subst hA1
  have hg3 : w.heap.size + 2 ≤ g := by simpa using hg1
  have F1 := hd (F0.out.below b1)
  have Own1 := hd (own1.low (B' := w.heap.size + 2) (by simp))
  rw [Hel.out]
  clear own1 b1 hg1
  have F3 := hd (Fr3.start (v3 := .slice (some ⟨g, 0, none⟩) n c1) F1.out 36)
  have Own1 := hd (Own1.out.alloc (.cells #[.slice (some ⟨g, 0, none⟩) n c1] 36))
  have hgo : g ≠ w1.heap.size := by omega
  obtain ⟨⟨⟨z1, z2⟩, ⟨z3, z4⟩, -, -⟩, -, -, -⟩ := F3.out
  go_wp2
  go_loopw [4] (fun i wr => ∃ k : Nat, k + 1 ≤ n ∧ i = .int .i64 ((k : Int) - 1) ∧ Fr3 w wr (.slice A n c) (.slice none 0 0) w1.heap.size (.slice (some ⟨g, 0, none⟩) n c1) ∧ OwnS 9 (w.heap.size + 2) wr (some ⟨g, 0, none⟩) c1 (eng W (mixV vs us k)))
    (fun i _ => (intOf i + 1).toNat)
  case atStart => exact ⟨n - 1, by omega, by go_num, F3.out, by
    rw [mixV_start Hul.out (by have := Hn.out; omega) (by rw [← Hus.out]; exact manyV_last (-1) (by have := Hn.out; omega))]; exact Own1.out⟩
  case round =>
    clear F3 Own1 F1 z1 z2 z3 z4
    obtain ⟨k, hk, rfl, fr, own⟩ := hrel
    have Fr_ := hd fr
    have Own := hd own
    clear fr own
    obtain ⟨⟨⟨q1, q2⟩, ⟨q3, q4⟩, q5, Bel⟩, ⟨q6, q7⟩, q8, q9⟩ := Fr_.out
    by_cases hk0 : 0 < k
    · obtain ⟨l, rfl⟩ : ∃ l, k = l + 1 := ⟨k - 1, by omega⟩
      have ei : ((l + 1 : Nat) : Int) - 1 = (l : Int) := by omega
      rw [ei]
      have hn := Hn.out
      obtain ⟨x, Hx⟩ : ∃ x, Hid (vs[l]? = some x) := ⟨vs[l], hd (List.getElem?_eq_getElem (by omega))⟩
      obtain ⟨y, Hy⟩ : ∃ y, Hid (us[l + 1]? = some y) := ⟨us[l + 1]'(by rw [Hul.out]; omega), hd (List.getElem?_eq_getElem (by rw [Hul.out]; omega))⟩
      have Hxy : Hid (us[l]? = some (x - y)) := hd (by
        have h2 := Hy.out
        rw [← Hus.out] at h2 ⊢
        exact manyV_back_at Hx.out h2)
      clear hn ei
      obtain ⟨s1, b, off, hs1, rfl, hb, hc1⟩ := (Hh.out.below Bel).at_ (k := l) (by rw [Hel.out]; omega)
      obtain rfl : s1 = showC W x := by rw [eng_at Hx.out] at hs1; injection hs1 with hs1; exact hs1.symm
      obtain ⟨g', s2, hs2, hg', hc2, hf2⟩ := Own.out.at_ (k := l + 1) (by rw [eng_length, mixV_length Hul.out.symm, Hul.out, Hn.out]; omega)
      simp only [Option.some.injEq, Addr.mk.injEq, and_true] at hg'
      subst hg'
      obtain rfl : s2 = showC W y := by
        rw [eng_at (vs := mixV vs us (l + 1)) (x := y) (by rw [mixV_at Hul.out (Nat.le_refl _)]; exact Hy.out)] at hs2
        injection hs2 with hs2; exact hs2.symm
      clear hs1 hs2
      have Hlx : Hid (l < (eng W (mixV vs us (l + 1))).length) := hd (by rw [eng_length, mixV_length Hul.out.symm, Hul.out, Hn.out]; omega)
      have e1 : IntKind.i64.wrap ((l : Int) + 1) = (l : Int) + 1 := IntWalk.i64_in _ (by omega)
      have e2 : ((l : Int) + 1).toNat = l + 1 := by omega
      have e3 : (0 : Int) ≤ (l : Int) + 1 := by omega
      have e4 : (l : Int) + 1 < n := by omega
      have e5 : l < n := by omega
      go_wp2
      go_region_law ((go_simp; go_at_call 153; refine (l3Minus_c W x y _ h1 h12).mono ?_; rintro e w2 ⟨rfl, b2⟩; have Own2 := hd (Own.out.drew.below b2); have Fr2 := hd (Fr_.out.drew.below b2); obtain ⟨g', o, ho, hg', hco, hfo⟩ := Own2.out.at_ (k := l) Hlx.out; simp only [Option.some.injEq, Addr.mk.injEq, and_true] at hg'; subst hg'; obtain ⟨⟨⟨p1, p2⟩, ⟨p3, p4⟩, -, -⟩, ⟨p6, p7⟩, -, -⟩ := Fr2.out; clear b2 ho))
      all_goals
        clear e1 e2 e3 e4 e5 q1 q2 q3 q4 q5 q6 q7 q8 q9 p1 p2 p3 p4 p6 p7
        have Own3 := hd (Own2.out.set l (showC W (x - y)))
        have Fr3_ := hd (Fr2.out.set (k := l) hg3 hgo (.string (showC W (x - y))))
        have Hnx : Hid ((eng W (mixV vs us (l + 1))).set l (showC W (x - y)) = eng W (mixV vs us l)) := hd (by
          rw [eng_set, mixV_back Hul.out Hxy.out])
        go_wp2
        go_roundw
        case rel => exact ⟨l, by omega, by go_num, Fr3_.out, by rw [← Hnx.out]; exact Own3.out⟩
        case measure => simp [intOf] <;> omega
    · obtain rfl : k = 0 := by omega
      have Hf : Hid (mixV vs us 0 = us) := hd (by simp [mixV])
      have Hl2 : Hid ((eng W us).length = n) := hd (by rw [eng_length, Hul.out, Hn.out])
      rw [Hf.out] at Own
      have Ow2 := hd ((Own.out.keep_lo (grown_set wr ⟨w.heap.size + 1, 0, none⟩ (.slice (some ⟨g, 0, none⟩) n c1)) (fun r hr => by simp at hr; omega)).low (show w.heap.size ≤ w.heap.size + 2 by omega))
      go_wp2
      refine bodyPost_ret (v := .agg #[.slice (some ⟨g, 0, none⟩) n c1]) ?_ rfl (RetE.own Ow2.out Hl2.out.symm (Fr_.out.1.done _))
      simp [results, Try.results144, q3, go_sem]

end Go.Proofs.Ytkmblobfamhoiaa
