/- The contracts of both sides' SkewEngine, for whatever comes in. -/
import Derived.Test.YtkmblobfamhoiaaGrE
import Derived.Test.YtkmblobfamhoiaaGrG
import Derived.Test.YtkmblobfamhoiaaSpeX
namespace Go.Proofs.Ytkmblobfamhoiaa
open Go.RowKit
set_option maxRecDepth 4000

theorem turnedMany_s (W : Nat) (vs : List Int) (N N' : Int) (A : Option Addr) (c n : Nat) (w : World) (hN : N' = N) (h : SS w A (eng W vs)) (h1 : 1 ≤ W) (h12 : W ≤ 12) (hn : vs.length = n) (hn1 : 1 ≤ n) (hn7 : n ≤ 7) (hN1 : -1000 ≤ N) (hN2 : N ≤ 1000) :
    Calls Try.prog 95 #[.slice A n c, .int .i64 N'] w fun e w' => ∃ A' c', e = .returned (.slice A' n c') ∧ OwnS 9 w.heap.size w' A' c' (eng W (manyV vs N)) ∧ Below w.heap.size w w' := by
  subst hN
  refine (turnedMany_any W vs N' A c n w h h1 h12 hn hn1 hn7 hN1 hN2).mono ?_
  rintro e w' ⟨A', c', rfl, ho, hb⟩
  exact ⟨A', c', by rw [eng_length, manyV_length, hn], ho, hb⟩

set_option maxHeartbeats 800000 in
theorem SkewEngine_any (A : Option Addr) (c : Nat) (cs : List ByteArray) (w : World) (h : SS w A cs) (hs : Short cs) :
    Calls Try.prog 91 #[.agg #[.slice A cs.length c]] w fun e w' => RetEO 9 w.heap.size w (turnF skewV cs) e w' := by
  have Hh := hd h
  have Hs := hd hs
  have F0 := hd (Fr.start w (.slice A cs.length c) (.slice none 0 0) 36 36)
  clear h hs
  cases hv : engV cs
  · have Hf : Hid (turnF skewV cs = none) := hd (turnF_none hv)
    have Hv := hd hv
    clear hv
    go_enter Try.func91, Try.ntmps91
    go_wp2_with fail
    refine (EngineValid_b _ A c cs false _ rfl ((Hh.out.alloc _).alloc _) Hs.out Hv.out).mono ?_
    rintro e w1 ⟨rfl, b1⟩
    have F1 := hd (F0.out.below b1)
    obtain ⟨⟨c1, f1⟩, ⟨c2, f2⟩, -, -⟩ := F1.out
    clear b1
    go_wp2
    exact bodyPost_ret (v := .tuple #[.agg #[.slice none 0 0], .bool false]) (by simp [results, Try.results91, c2, go_sem]) rfl (RetEO.none_ Hf.out (F1.out.done _))
  · have Hf := hd (turnF_some (f := skewV) hv)
    obtain ⟨he, hW1, hW12, hn1, hn7⟩ := engV_vals hv
    have Hl : Hid ((cvs cs).length = cs.length) := hd (by simp [cvs])
    obtain ⟨W, hW⟩ : ∃ W, W = hsz cs := ⟨_, rfl⟩
    obtain ⟨vs, hvs⟩ : ∃ vs, vs = cvs cs := ⟨_, rfl⟩
    rw [← hW, ← hvs] at he Hf
    rw [← hW] at hW1 hW12
    rw [← hvs] at hn1 hn7 Hl
    have He := hd he
    have Hv := hd hv
    rw [Hl.out] at hn1 hn7
    have Hml : Hid ((eng W (skewV vs)).length = cs.length) := hd (by rw [eng_length, skewV_length, Hl.out])
    clear he hv hW hvs
    go_enter Try.func91, Try.ntmps91
    go_wp2_with fail
    refine (EngineValid_b _ A c cs true _ rfl ((Hh.out.alloc _).alloc _) Hs.out Hv.out).mono ?_
    rintro e w1 ⟨rfl, b1⟩
    have F1 := hd (F0.out.below b1)
    have S1 : Hid (SS w1 A (eng W vs)) := hd (by rw [← He.out]; exact (Hh.out.below F1.out.2.2.2))
    obtain ⟨⟨c1, f1⟩, ⟨c2, f2⟩, -, -⟩ := F1.out
    clear b1
    go_wp2_with fail
    refine (CloneS_n cs.length A c (eng W vs) _ (by rw [eng_length]; exact Hl.out) S1.out (by rw [eng_length, Hl.out]; omega) (by rw [eng_length, Hl.out]; omega)).mono ?_
    rintro e w2 ⟨A2, c3, rfl, own2, b2⟩
    have Hel : Hid ((eng W vs).length = cs.length) := hd (by rw [eng_length, Hl.out])
    obtain ⟨g, hA2, hg1, hg2⟩ := own2.addr (by rw [Hel.out]; omega)
    subst hA2
    rw [Hel.out]
    have F2 := hd (F1.out.below b2)
    have hszz : w.heap.size + 2 ≤ w1.heap.size := F1.out.2.2.1
    have Own2 := hd (own2.low hszz)
    have S2 := hd (S1.out.below b2)
    obtain ⟨us, Hus⟩ : ∃ us, Hid (skewV vs = us) := ⟨_, hd rfl⟩
    rw [Hus.out] at Hf Hml
    have Hul : Hid (us.length = vs.length) := hd (by rw [← Hus.out, skewV_length])
    have hg3 : w.heap.size + 2 ≤ g := by omega
    clear c1 f1 c2 f2 b2 own2 hg1 hg2
    have Hb2 := hd (Below.refl w2.heap.size w2)
    go_wp2
    go_loopw [15] (fun i wr => ∃ k : Nat, k ≤ cs.length ∧ i = .int .i64 k ∧ Fr w wr (.slice A cs.length c) (.slice none 0 0) ∧ SS wr A (eng W vs) ∧ OwnS 9 (w.heap.size + 2) wr (some ⟨g, 0, none⟩) c3 (eng W (mixV us vs k)))
      (fun i _ => cs.length - (intOf i).toNat)
    case atStart => exact ⟨0, by omega, rfl, F2.out, S2.out, by rw [mixV_zero]; exact Own2.out⟩
    case round =>
      clear F2 Own2 S2 Hb2
      obtain ⟨k, hk, rfl, fr, ss, own⟩ := hrel
      have F := hd fr
      have Own := hd own
      clear fr own ss
      obtain ⟨⟨c1, f1⟩, ⟨c2, f2⟩, -, -⟩ := F.out
      by_cases hlt : k < cs.length
      · have hn := Hl.out
        obtain ⟨x, Hx⟩ : ∃ x, Hid (val (vs.drop k) (-((k / 2 : Nat) : Int)) = x) := ⟨_, hd rfl⟩
        have Hux : Hid (us[k]? = some x) := hd (by rw [← Hus.out, skewV_at (by omega), Hx.out])
        have Hmx : Hid ((eng W (manyV vs (-((k / 2 : Nat) : Int))))[k]? = some (showC W x)) := hd (by rw [← Hx.out]; exact eng_at (manyV_at _ (by omega)))
        have Hmn : Hid ((eng W (manyV vs (-((k / 2 : Nat) : Int)))).length = cs.length) := hd (by rw [eng_length, manyV_length]; exact hn)
        clear hn
        have HS : Hid (SS wr A (eng W vs)) := hd (by rw [← He.out]; exact Hh.out.below F.out.2.2.2)
        have Hlx : Hid (k < (eng W (mixV us vs k)).length) := hd (by rw [eng_length, mixV_length Hul.out, Hl.out]; omega)
        have Hq : Hid (IntKind.i64.wrap (-IntKind.i64.wrap ((k : Int) / 2)) = -((k / 2 : Nat) : Int)) := hd (by
          rw [IntWalk.i64_in ((k : Int) / 2) (by omega), IntWalk.i64_in _ (by omega)]
          omega)
        go_wp2_with fail
        refine (turnedMany_s W vs (-((k / 2 : Nat) : Int)) _ A c cs.length wr (by first | exact Hq.out | omega) HS.out hW1 hW12 Hl.out hn1 hn7 (by omega) (by omega)).mono ?_
        rintro e w3 ⟨A4, c4, rfl, own4, b4⟩
        have Own4 := hd (Own.out.below b4)
        have F4 := hd (F.out.below b4)
        clear c1 f1 c2 f2
        obtain ⟨⟨c1, f1⟩, ⟨c2, f2⟩, -, -⟩ := F4.out
        obtain ⟨g', o, ho, hg', hco, hfo⟩ := Own4.out.at_ (k := k) Hlx.out
        simp only [Option.some.injEq, Addr.mk.injEq, and_true] at hg'
        subst hg'
        obtain ⟨g2, o2, ho2, rfl, hc2, hf2⟩ := own4.at_ (k := k) (by rw [Hmn.out]; exact hlt)
        obtain rfl : o2 = showC W x := Option.some.inj (ho2.symm.trans Hmx.out)
        clear b4 ho own4 ho2
        have Own5 := hd (Own4.out.set k (showC W x))
        have F5 := hd (F4.out.grown (grown_set w3 ⟨g, k, none⟩ (.string (showC W x))) hg3)
        have Hnx : Hid ((eng W (mixV us vs k)).set k (showC W x) = eng W (mixV us vs (k + 1))) := hd (by
          rw [eng_set, mixV_set Hul.out Hux.out])
        have HS5 : Hid (SS (w3.setCell ⟨g, k, none⟩ (.string (showC W x))) A (eng W vs)) := hd (by rw [← He.out]; exact Hh.out.below F5.out.2.2.2)
        go_wp2
        go_roundw
        case rel => exact ⟨k + 1, by omega, by go_num, F5.out, HS5.out, by rw [← Hnx.out]; exact Own5.out⟩
        case measure => simp [intOf] <;> omega
      · have Hfu : Hid (mixV us vs k = us) := hd (mixV_full Hul.out (by have := Hl.out; omega))
        rw [Hfu.out] at Own
        have Ow := hd ((Own.out.keep_lo (grown_set wr ⟨w.heap.size + 1, 0, none⟩ (.slice (some ⟨g, 0, none⟩) cs.length c3)) (fun r hr => by simp at hr; omega)).low (show w.heap.size ≤ w.heap.size + 2 by omega))
        go_wp2
        exact bodyPost_ret (v := .tuple #[.agg #[.slice (some ⟨g, 0, none⟩) cs.length c3], .bool true]) (by simp [results, Try.results91, c2, go_sem]) rfl (RetEO.some_ Hf.out Ow.out Hml.out.symm (F.out.done _))

end Go.Proofs.Ytkmblobfamhoiaa
