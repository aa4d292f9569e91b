/- The contract of the reference's l3Skew, for whatever comes in. -/
import Derived.Test.YtcalheieakppmaaSpeV
import Derived.Test.YtcalheieakppmaaSpeP
namespace Go.Proofs.Ytcalheieakppmaa
open Go.RowKit
set_option maxRecDepth 4000

theorem run_field0 (A : Option Addr) (c n : Nat) (w : World) : Sem.run Try.prog (Instr.field 31 (.agg #[.slice A n c]) 0) w = .ok (.slice A n c) w := by
  simp [Instr.field, asAgg, go_sem]

theorem l3Many_s (W : Nat) (vs : List Int) (N N' : Int) (A : Option Addr) (c n : Nat) (w : World) (hN : N' = N) (h : SS w A (eng W vs)) (h1 : 1 ≤ W) (h12 : W ≤ 12) (hn : vs.length = n) (hn1 : 1 ≤ n) (hn7 : n ≤ 7) (hN1 : -1000 ≤ N) (hN2 : N ≤ 1000) :
    Calls Try.prog 130 #[.agg #[.slice A n c], .int .i64 N'] w fun e w' => ∃ A' c', e = .returned (.agg #[.slice A' n c']) ∧ OwnS 9 w.heap.size w' A' c' (eng W (manyV vs N)) ∧ Below w.heap.size w w' := by
  subst hN
  refine (l3Many_any W vs N' A c n w h h1 h12 hn hn1 hn7 hN1 hN2).mono ?_
  rintro e w' ⟨A', c', rfl, ho, hb⟩
  exact ⟨A', c', by rw [eng_length, manyV_length, hn], ho, hb⟩

set_option maxHeartbeats 3200000 in
theorem l3Skew_any (W : Nat) (vs : List Int) (A : Option Addr) (c n : Nat) (w : World) (h : SS w A (eng W vs)) (h1 : 1 ≤ W) (h12 : W ≤ 12) (hn : vs.length = n) (hn1 : 1 ≤ n) (hn7 : n ≤ 7) :
    Calls Try.prog 134 #[.agg #[.slice A n c]] w fun e w' => RetE 9 w.heap.size w (eng W (skewV vs)) e w' := by
  have Hh := hd h
  have Hel : Hid ((eng W vs).length = n) := hd (by rw [eng_length, hn])
  obtain ⟨us, Hus⟩ : ∃ us, Hid (skewV vs = us) := ⟨_, hd rfl⟩
  rw [Hus.out]
  have Hul : Hid (us.length = vs.length) := hd (by rw [← Hus.out, skewV_length])
  have Hn := hd hn
  have F0 := hd (Fr.start w (.slice A n c) (.slice none 0 0) 31 31)
  clear h hn
  go_enter Try.func134, Try.ntmps134
  go_wp2_with fail
  refine (l3Copy_any A c n (eng W vs) _ ((Hh.out.alloc _).alloc _) Hel.out hn1 (by omega)).mono ?_
  rintro e w1 ⟨A1, c1, rfl, own1, b1⟩
  obtain ⟨g, hA1, hg1, hg2⟩ := own1.addr (by rw [Hel.out]; omega)
  subst hA1
  have hg3 : w.heap.size + 2 ≤ g := by simpa using hg1
  have F1 := hd (F0.out.below b1)
  have Own1 := hd (own1.low (B' := w.heap.size + 2) (by simp))
  rw [Hel.out]
  clear own1 b1 hg1
  have F3 := hd (Fr3.start (v3 := .slice (some ⟨g, 0, none⟩) n c1) F1.out 31)
  have Own1 := hd (Own1.out.alloc (.cells #[.slice (some ⟨g, 0, none⟩) n c1] 31))
  have hgo : g ≠ w1.heap.size := by omega
  go_wp2
  go_loopw [4] (fun i wr => ∃ k : Nat, k ≤ n ∧ i = .int .i64 k ∧ Fr3 w wr (.slice A n c) (.slice none 0 0) w1.heap.size (.slice (some ⟨g, 0, none⟩) n c1) ∧ OwnS 9 (w.heap.size + 2) wr (some ⟨g, 0, none⟩) c1 (eng W (mixV us vs k)))
    (fun i _ => n - (intOf i).toNat)
  case atStart => exact ⟨0, by omega, rfl, F3.out, by rw [mixV_zero]; exact Own1.out⟩
  case round =>
    clear F3 Own1 F1
    obtain ⟨k, hk, rfl, fr, own⟩ := hrel
    have Fr_ := hd fr
    have Own := hd own
    clear fr own
    obtain ⟨⟨⟨q1, q2⟩, ⟨q3, q4⟩, q5, Bel⟩, ⟨q6, q7⟩, q8, q9⟩ := Fr_.out
    by_cases hlt : k < n
    · have hn := Hn.out
      obtain ⟨x, Hx⟩ : ∃ x, Hid (val (vs.drop k) (-((k / 2 : Nat) : Int)) = x) := ⟨_, hd rfl⟩
      have Hux : Hid (us[k]? = some x) := hd (by rw [← Hus.out, skewV_at (by omega), Hx.out])
      have Hmx : Hid ((eng W (manyV vs (-((k / 2 : Nat) : Int))))[k]? = some (showC W x)) := hd (by rw [← Hx.out]; exact eng_at (manyV_at _ (by omega)))
      have Hml : Hid (k < (eng W (manyV vs (-((k / 2 : Nat) : Int)))).length) := hd (by rw [eng_length, manyV_length]; omega)
      clear hn
      have HS := hd (Hh.out.below Bel)
      have Hlx : Hid (k < (eng W (mixV us vs k)).length) := hd (by rw [eng_length, mixV_length Hul.out, Hn.out]; omega)
      have e5 : (k : Int) < n := by omega
      have hfld := run_field0
      have Hq : Hid (IntKind.i64.wrap (-IntKind.i64.wrap ((k : Int) / 2)) = -((k / 2 : Nat) : Int)) := hd (by
        rw [IntWalk.i64_in ((k : Int) / 2) (by omega), IntWalk.i64_in _ (by omega)]
        omega)
      go_wp2
      go_region_law ((go_simp; go_at_call 130; refine (l3Many_s W vs (-((k / 2 : Nat) : Int)) _ A c n wr.drew Hq.out HS.out h1 h12 Hn.out hn1 hn7 (by omega) (by omega)).mono ?_; rintro e w2 ⟨A2, c2, rfl, own2, b2⟩; have Own2 := hd (Own.out.drew.below b2); have Fr2 := hd (Fr_.out.drew.below b2); obtain ⟨g', o, ho, hg', hco, hfo⟩ := Own2.out.at_ (k := k) Hlx.out; simp only [Option.some.injEq, Addr.mk.injEq, and_true] at hg'; subst hg'; obtain ⟨g2, o2, ho2, rfl, hc2, hf2⟩ := own2.at_ (k := k) Hml.out; obtain rfl : o2 = showC W x := Option.some.inj (ho2.symm.trans Hmx.out); obtain ⟨⟨⟨p1, p2⟩, ⟨p3, p4⟩, -, -⟩, ⟨p6, p7⟩, -, -⟩ := Fr2.out; clear b2 ho own2 ho2))
      all_goals
        clear e5 q1 q2 q3 q4 q5 q6 q7 q8 q9 p1 p2 p3 p4 p6 p7
        have Own3 := hd (Own2.out.set k (showC W x))
        have Fr3_ := hd (Fr2.out.set (k := k) hg3 hgo (.string (showC W x)))
        have Hnx : Hid ((eng W (mixV us vs k)).set k (showC W x) = eng W (mixV us vs (k + 1))) := hd (by
          rw [eng_set, mixV_set Hul.out Hux.out])
        go_wp2
        go_roundw
        case rel => exact ⟨k + 1, by omega, by go_num, Fr3_.out, by rw [← Hnx.out]; exact Own3.out⟩
        case measure => simp [intOf] <;> omega
    · have Hf : Hid (mixV us vs k = us) := hd (mixV_full Hul.out (by have := Hn.out; omega))
      have Hl2 : Hid ((eng W us).length = n) := hd (by rw [eng_length, Hul.out, Hn.out])
      rw [Hf.out] at Own
      have Ow2 := hd ((Own.out.keep_lo (grown_set wr ⟨w.heap.size + 1, 0, none⟩ (.slice (some ⟨g, 0, none⟩) n c1)) (fun r hr => by simp at hr; omega)).low (show w.heap.size ≤ w.heap.size + 2 by omega))
      go_wp2
      refine bodyPost_ret (v := .agg #[.slice (some ⟨g, 0, none⟩) n c1]) ?_ rfl (RetE.own Ow2.out Hl2.out.symm (Fr_.out.1.done _))
      simp [results, Try.results134, q3, go_sem]

end Go.Proofs.Ytcalheieakppmaa
