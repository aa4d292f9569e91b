/- Contracts of the reference's functions on engines: halves of turns. -/
import Derived.Test.YtkmblobfamhoiaaGrG
namespace Go.Proofs.Ytkmblobfamhoiaa
open Go.RowKit
set_option maxRecDepth 4000

set_option maxHeartbeats 3200000 in
theorem l3Half_any (W f : Nat) (vs : List Int) (A : Option Addr) (c n : Nat) (w : World) (h : SS w A (eng W vs)) (h1 : 1 ≤ W) (h12 : W ≤ 12) (hn : vs.length = n) (hn1 : 1 ≤ n) (hn7 : n ≤ 7) (hf : f ≤ 1) :
    Calls Try.prog 136 #[.agg #[.slice A n c], .int .i64 f] w fun e w' => RetE 9 w.heap.size w (eng W (halfV f vs)) e w' := by
  have Hh := hd h
  have Hel : Hid ((eng W vs).length = n) := hd (by rw [eng_length, hn])
  obtain ⟨us, Hus⟩ : ∃ us, Hid (halfV f vs = us) := ⟨_, hd rfl⟩
  rw [Hus.out]
  have Hul : Hid (us.length = vs.length) := hd (by rw [← Hus.out, halfV_length])
  have Hn := hd hn
  have Hst : Hid (mixV us vs f = vs) := hd (by
    rcases Nat.eq_zero_or_pos f with h0 | h0
    · subst h0; exact mixV_zero _ _
    · obtain rfl : f = 1 := by omega
      rw [mixV_same Hul.out (by rw [← Hus.out, halfV_at (by omega), if_neg (by decide), List.getD_eq_getElem?_getD, List.getElem?_eq_getElem (by omega)]; rfl) (by omega)]
      exact mixV_zero _ _)
  have F0 := hd (Fr.start w (.slice A n c) (.slice none 0 0) 36 36)
  clear h hn
  go_enter Try.func136, Try.ntmps136
  go_wp2_with fail
  refine (l3Copy_any A c n (eng W vs) _ ((Hh.out.alloc _).alloc _) Hel.out hn1 (by omega)).mono ?_
  rintro e w1 ⟨A1, c1, rfl, own1, b1⟩
  obtain ⟨g, hA1, hg1, hg2⟩ := own1.addr (by rw [Hel.out]; omega)
  subst hA1
  have hg3 : w.heap.size + 2 ≤ g := by simpa using hg1
  have F1 := hd (F0.out.below b1)
  have Own1 := hd (own1.low (B' := w.heap.size + 2) (by simp))
  rw [Hel.out]
  clear own1 b1 hg1
  have F3 := hd (Fr3.start (v3 := .slice (some ⟨g, 0, none⟩) n c1) F1.out 36)
  have Own1 := hd (Own1.out.alloc (.cells #[.slice (some ⟨g, 0, none⟩) n c1] 36))
  have hgo : g ≠ w1.heap.size := by omega
  go_wp2
  go_loopw [6] (fun i wr => ∃ k : Nat, k ≤ n + 1 ∧ i = .int .i64 k ∧ k % 2 = f ∧ Fr3 w wr (.slice A n c) (.slice none 0 0) w1.heap.size (.slice (some ⟨g, 0, none⟩) n c1) ∧ OwnS 9 (w.heap.size + 2) wr (some ⟨g, 0, none⟩) c1 (eng W (mixV us vs k)))
    (fun i _ => n + 1 - (intOf i).toNat)
  case atStart => exact ⟨f, by omega, rfl, by omega, F3.out, by rw [Hst.out]; exact Own1.out⟩
  case round =>
    clear F3 Own1 F1
    obtain ⟨k, hk, rfl, hkf, fr, own⟩ := hrel
    have Hkf := hd hkf
    have Fr_ := hd fr
    have Own := hd own
    clear fr own hkf
    obtain ⟨⟨⟨q1, q2⟩, ⟨q3, q4⟩, q5, Bel⟩, ⟨q6, q7⟩, q8, q9⟩ := Fr_.out
    by_cases hlt : k + 1 < n
    · have hn := Hn.out
      obtain ⟨x, Hx⟩ : ∃ x, Hid (vs[k]? = some x) := ⟨vs[k], hd (List.getElem?_eq_getElem (by omega))⟩
      obtain ⟨y, Hy⟩ : ∃ y, Hid (vs[k + 1]? = some y) := ⟨vs[k + 1], hd (List.getElem?_eq_getElem (by omega))⟩
      have Hxy : Hid (us[k]? = some (x + y)) := hd (by
        rw [← Hus.out, halfV_at (by omega), if_pos Hkf.out, getD_at Hx.out, getD_at Hy.out])
      have Hy2 : Hid (us[k + 1]? = vs[k + 1]?) := hd (by
        rw [← Hus.out, halfV_at (by omega), if_neg (by have := Hkf.out; omega), getD_at Hy.out, Hy.out])
      clear hn
      obtain ⟨s1, b, off, hs1, rfl, hb, hc1⟩ := (Hh.out.below Bel).at_ (k := k) (by rw [Hel.out]; omega)
      obtain ⟨s2, b', off', hs2, he, hb', hc2⟩ := (Hh.out.below Bel).at_ (k := k + 1) (by rw [Hel.out]; omega)
      simp only [Option.some.injEq, Addr.mk.injEq, and_true] at he
      obtain ⟨rfl, rfl⟩ := he
      obtain rfl : s1 = showC W x := by rw [eng_at Hx.out] at hs1; injection hs1 with hs1; exact hs1.symm
      obtain rfl : s2 = showC W y := by rw [eng_at Hy.out] at hs2; injection hs2 with hs2; exact hs2.symm
      clear hs1 hs2
      have Hlx : Hid (k < (eng W (mixV us vs k)).length) := hd (by rw [eng_length, mixV_length Hul.out, Hn.out]; omega)
      have e1 : IntKind.i64.wrap ((k : Int) + 1) = (k : Int) + 1 := IntWalk.i64_in _ (by omega)
      have e2 : ((k : Int) + 1).toNat = k + 1 := by omega
      have e3 : (0 : Int) ≤ (k : Int) + 1 := by omega
      have e4 : (k : Int) + 1 < n := by omega
      have e5 : k < n := by omega
      go_wp2
      go_region_law ((go_simp; go_at_call 90; refine (l3Plus_c W x y _ h1 h12).mono ?_; rintro e w2 ⟨rfl, b2⟩; have Own2 := hd (Own.out.drew.below b2); have Fr2 := hd (Fr_.out.drew.below b2); obtain ⟨g', o, ho, hg', hco, hfo⟩ := Own2.out.at_ (k := k) Hlx.out; simp only [Option.some.injEq, Addr.mk.injEq, and_true] at hg'; subst hg'; obtain ⟨⟨⟨p1, p2⟩, ⟨p3, p4⟩, -, -⟩, ⟨p6, p7⟩, -, -⟩ := Fr2.out; clear b2 ho))
      all_goals
        clear e1 e2 e3 e4 e5 q1 q2 q3 q4 q5 q6 q7 q8 q9 p1 p2 p3 p4 p6 p7
        have Own3 := hd (Own2.out.set k (showC W (x + y)))
        have Fr3_ := hd (Fr2.out.set (k := k) hg3 hgo (.string (showC W (x + y))))
        have Hnx : Hid ((eng W (mixV us vs k)).set k (showC W (x + y)) = eng W (mixV us vs (k + 2))) := hd (by
          rw [eng_set, mixV_set Hul.out Hxy.out, ← mixV_same Hul.out Hy2.out (by have := Hn.out; omega)])
        go_wp2
        go_roundw
        case rel => exact ⟨k + 2, by omega, by go_num, by have := Hkf.out; omega, Fr3_.out, by rw [← Hnx.out]; exact Own3.out⟩
        case measure => simp [intOf] <;> omega
    · have Hf : Hid (mixV us vs k = us) := hd (by
        have hn := Hn.out
        by_cases hkn : k < n
        · rw [← mixV_same Hul.out (by rw [← Hus.out, halfV_at (by omega), if_pos Hkf.out, getD_none (i := k + 1) (by omega), Int.add_zero, List.getD_eq_getElem?_getD, List.getElem?_eq_getElem (by omega)]; rfl) (by omega)]
          exact mixV_full Hul.out (by omega)
        · exact mixV_full Hul.out (by omega))
      have Hl2 : Hid ((eng W us).length = n) := hd (by rw [eng_length, Hul.out, Hn.out])
      rw [Hf.out] at Own
      have Ow2 := hd ((Own.out.keep_lo (grown_set wr ⟨w.heap.size + 1, 0, none⟩ (.slice (some ⟨g, 0, none⟩) n c1)) (fun r hr => by simp at hr; omega)).low (show w.heap.size ≤ w.heap.size + 2 by omega))
      go_wp2
      refine bodyPost_ret (v := .agg #[.slice (some ⟨g, 0, none⟩) n c1]) ?_ rfl (RetE.own Ow2.out Hl2.out.symm (Fr_.out.1.done _))
      simp [results, Try.results136, q3, go_sem]

end Go.Proofs.Ytkmblobfamhoiaa
