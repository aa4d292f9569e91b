/- Contracts of the reference's functions on engines: turns, for whatever comes in. -/
import Derived.Test.YtcalheieakppmaaSpeP
import Derived.Test.YtcalheieakppmaaSpeQ
namespace Go.Proofs.Ytcalheieakppmaa
open Go.RowKit
set_option maxRecDepth 4000

set_option maxHeartbeats 800000 in
theorem sTurnWhole_any (A : Option Addr) (c : Nat) (cs : List ByteArray) (w : World) (h : SS w A cs) (hs : Short cs) :
    Calls Try.prog 63 #[.agg #[.slice A cs.length c]] w fun e w' => RetEO 9 w.heap.size w (turnF (manyV · 1) cs) e w' := by
  have Hh := hd h
  have Hs := hd hs
  have F0 := hd (Fr.start w (.slice A cs.length c) (.slice none 0 0) 31 31)
  clear h hs
  cases hv : engV cs
  · have Hf : Hid (turnF (manyV · 1) cs = none) := hd (turnF_none hv)
    have Hv := hd hv
    clear hv
    go_enter Try.func63, Try.ntmps63
    go_wp2_with fail
    refine (sEngineValid_b _ A c cs false _ rfl ((Hh.out.alloc _).alloc _) Hs.out Hv.out).mono ?_
    rintro e w1 ⟨rfl, b1⟩
    have F1 := hd (F0.out.below b1)
    obtain ⟨⟨c1, f1⟩, ⟨c2, f2⟩, -, -⟩ := F1.out
    clear b1
    go_wp2
    exact bodyPost_ret (v := .tuple #[.agg #[.slice none 0 0], .bool false]) (by simp [results, Try.results63, c2, go_sem]) rfl (RetEO.none_ Hf.out (F1.out.done _))
  · have Hf := hd (turnF_some (f := (manyV · 1)) hv)
    obtain ⟨he, hW1, hW12, hn1, hn7⟩ := engV_vals hv
    have Hl : Hid ((cvs cs).length = cs.length) := hd (by simp [cvs])
    obtain ⟨W, hW⟩ : ∃ W, W = hsz cs := ⟨_, rfl⟩
    obtain ⟨vs, hvs⟩ : ∃ vs, vs = cvs cs := ⟨_, rfl⟩
    rw [← hW, ← hvs] at he Hf
    rw [← hW] at hW1 hW12
    rw [← hvs] at hn1 hn7 Hl
    have He := hd he
    have Hv := hd hv
    rw [Hl.out] at hn1 hn7
    have Hml : Hid ((eng W (manyV vs 1)).length = cs.length) := hd (by rw [eng_length, manyV_length, Hl.out])
    clear he hv hW hvs
    go_enter Try.func63, Try.ntmps63
    go_wp2_with fail
    refine (sEngineValid_b _ A c cs true _ rfl ((Hh.out.alloc _).alloc _) Hs.out Hv.out).mono ?_
    rintro e w1 ⟨rfl, b1⟩
    have F1 := hd (F0.out.below b1)
    have S1 : Hid (SS w1 A (eng W vs)) := hd (by rw [← He.out]; exact (Hh.out.below F1.out.2.2.2))
    obtain ⟨⟨c1, f1⟩, ⟨c2, f2⟩, -, -⟩ := F1.out
    clear b1
    go_wp2_with fail
    refine (l3Turn_any W vs A c cs.length _ S1.out hW1 hW12 Hl.out hn1 hn7).mono ?_
    rintro e w2 ⟨A2, c3, rfl, own2, b2⟩
    rw [Hml.out]
    have F2 := hd (F1.out.below b2)
    have Own := hd (own2.keep_lo (grown_set w2 ⟨w.heap.size + 1, 0, none⟩ (.slice A2 cs.length c3)) (fun r hr => by simp at hr; have := F1.out.2.2.1; omega))
    have hszz : w.heap.size ≤ w1.heap.size := F1.out.2.2.2.size
    clear c1 f1 c2 f2
    obtain ⟨⟨c1, f1⟩, ⟨c2, f2⟩, -, -⟩ := F2.out
    clear b2 own2
    go_wp2
    exact bodyPost_ret (v := .tuple #[.agg #[.slice A2 cs.length c3], .bool true]) (by simp [results, Try.results63, c2, go_sem]) rfl (RetEO.some_ Hf.out (Own.out.low hszz) Hml.out.symm (F2.out.done _))

set_option maxHeartbeats 800000 in
theorem sTurnBack_any (A : Option Addr) (c : Nat) (cs : List ByteArray) (w : World) (h : SS w A cs) (hs : Short cs) :
    Calls Try.prog 59 #[.agg #[.slice A cs.length c]] w fun e w' => RetEO 9 w.heap.size w (turnF (manyV · (-1)) cs) e w' := by
  have Hh := hd h
  have Hs := hd hs
  have F0 := hd (Fr.start w (.slice A cs.length c) (.slice none 0 0) 31 31)
  clear h hs
  cases hv : engV cs
  · have Hf : Hid (turnF (manyV · (-1)) cs = none) := hd (turnF_none hv)
    have Hv := hd hv
    clear hv
    go_enter Try.func59, Try.ntmps59
    go_wp2_with fail
    refine (sEngineValid_b _ A c cs false _ rfl ((Hh.out.alloc _).alloc _) Hs.out Hv.out).mono ?_
    rintro e w1 ⟨rfl, b1⟩
    have F1 := hd (F0.out.below b1)
    obtain ⟨⟨c1, f1⟩, ⟨c2, f2⟩, -, -⟩ := F1.out
    clear b1
    go_wp2
    exact bodyPost_ret (v := .tuple #[.agg #[.slice none 0 0], .bool false]) (by simp [results, Try.results59, c2, go_sem]) rfl (RetEO.none_ Hf.out (F1.out.done _))
  · have Hf := hd (turnF_some (f := (manyV · (-1))) hv)
    obtain ⟨he, hW1, hW12, hn1, hn7⟩ := engV_vals hv
    have Hl : Hid ((cvs cs).length = cs.length) := hd (by simp [cvs])
    obtain ⟨W, hW⟩ : ∃ W, W = hsz cs := ⟨_, rfl⟩
    obtain ⟨vs, hvs⟩ : ∃ vs, vs = cvs cs := ⟨_, rfl⟩
    rw [← hW, ← hvs] at he Hf
    rw [← hW] at hW1 hW12
    rw [← hvs] at hn1 hn7 Hl
    have He := hd he
    have Hv := hd hv
    rw [Hl.out] at hn1 hn7
    have Hml : Hid ((eng W (manyV vs (-1))).length = cs.length) := hd (by rw [eng_length, manyV_length, Hl.out])
    clear he hv hW hvs
    go_enter Try.func59, Try.ntmps59
    go_wp2_with fail
    refine (sEngineValid_b _ A c cs true _ rfl ((Hh.out.alloc _).alloc _) Hs.out Hv.out).mono ?_
    rintro e w1 ⟨rfl, b1⟩
    have F1 := hd (F0.out.below b1)
    have S1 : Hid (SS w1 A (eng W vs)) := hd (by rw [← He.out]; exact (Hh.out.below F1.out.2.2.2))
    obtain ⟨⟨c1, f1⟩, ⟨c2, f2⟩, -, -⟩ := F1.out
    clear b1
    go_wp2_with fail
    refine (l3Undo_any W vs A c cs.length _ S1.out hW1 hW12 Hl.out hn1 hn7).mono ?_
    rintro e w2 ⟨A2, c3, rfl, own2, b2⟩
    rw [Hml.out]
    have F2 := hd (F1.out.below b2)
    have Own := hd (own2.keep_lo (grown_set w2 ⟨w.heap.size + 1, 0, none⟩ (.slice A2 cs.length c3)) (fun r hr => by simp at hr; have := F1.out.2.2.1; omega))
    have hszz : w.heap.size ≤ w1.heap.size := F1.out.2.2.2.size
    clear c1 f1 c2 f2
    obtain ⟨⟨c1, f1⟩, ⟨c2, f2⟩, -, -⟩ := F2.out
    clear b2 own2
    go_wp2
    exact bodyPost_ret (v := .tuple #[.agg #[.slice A2 cs.length c3], .bool true]) (by simp [results, Try.results59, c2, go_sem]) rfl (RetEO.some_ Hf.out (Own.out.low hszz) Hml.out.symm (F2.out.done _))

set_option maxHeartbeats 800000 in
theorem sTurnFirst_any (A : Option Addr) (c : Nat) (cs : List ByteArray) (w : World) (h : SS w A cs) (hs : Short cs) :
    Calls Try.prog 53 #[.agg #[.slice A cs.length c]] w fun e w' => RetEO 9 w.heap.size w (turnF (halfV 0) cs) e w' := by
  have Hh := hd h
  have Hs := hd hs
  have F0 := hd (Fr.start w (.slice A cs.length c) (.slice none 0 0) 31 31)
  clear h hs
  cases hv : engV cs
  · have Hf : Hid (turnF (halfV 0) cs = none) := hd (turnF_none hv)
    have Hv := hd hv
    clear hv
    go_enter Try.func53, Try.ntmps53
    go_wp2_with fail
    refine (sEngineValid_b _ A c cs false _ rfl ((Hh.out.alloc _).alloc _) Hs.out Hv.out).mono ?_
    rintro e w1 ⟨rfl, b1⟩
    have F1 := hd (F0.out.below b1)
    obtain ⟨⟨c1, f1⟩, ⟨c2, f2⟩, -, -⟩ := F1.out
    clear b1
    go_wp2
    exact bodyPost_ret (v := .tuple #[.agg #[.slice none 0 0], .bool false]) (by simp [results, Try.results53, c2, go_sem]) rfl (RetEO.none_ Hf.out (F1.out.done _))
  · have Hf := hd (turnF_some (f := (halfV 0)) hv)
    obtain ⟨he, hW1, hW12, hn1, hn7⟩ := engV_vals hv
    have Hl : Hid ((cvs cs).length = cs.length) := hd (by simp [cvs])
    obtain ⟨W, hW⟩ : ∃ W, W = hsz cs := ⟨_, rfl⟩
    obtain ⟨vs, hvs⟩ : ∃ vs, vs = cvs cs := ⟨_, rfl⟩
    rw [← hW, ← hvs] at he Hf
    rw [← hW] at hW1 hW12
    rw [← hvs] at hn1 hn7 Hl
    have He := hd he
    have Hv := hd hv
    rw [Hl.out] at hn1 hn7
    have Hml : Hid ((eng W (halfV 0 vs)).length = cs.length) := hd (by rw [eng_length, halfV_length, Hl.out])
    clear he hv hW hvs
    go_enter Try.func53, Try.ntmps53
    go_wp2_with fail
    refine (sEngineValid_b _ A c cs true _ rfl ((Hh.out.alloc _).alloc _) Hs.out Hv.out).mono ?_
    rintro e w1 ⟨rfl, b1⟩
    have F1 := hd (F0.out.below b1)
    have S1 : Hid (SS w1 A (eng W vs)) := hd (by rw [← He.out]; exact (Hh.out.below F1.out.2.2.2))
    obtain ⟨⟨c1, f1⟩, ⟨c2, f2⟩, -, -⟩ := F1.out
    clear b1
    go_wp2_with fail
    refine (l3Half_any W 0 vs A c cs.length _ S1.out hW1 hW12 Hl.out hn1 hn7 (by decide)).mono ?_
    rintro e w2 ⟨A2, c3, rfl, own2, b2⟩
    rw [Hml.out]
    have F2 := hd (F1.out.below b2)
    have Own := hd (own2.keep_lo (grown_set w2 ⟨w.heap.size + 1, 0, none⟩ (.slice A2 cs.length c3)) (fun r hr => by simp at hr; have := F1.out.2.2.1; omega))
    have hszz : w.heap.size ≤ w1.heap.size := F1.out.2.2.2.size
    clear c1 f1 c2 f2
    obtain ⟨⟨c1, f1⟩, ⟨c2, f2⟩, -, -⟩ := F2.out
    clear b2 own2
    go_wp2
    exact bodyPost_ret (v := .tuple #[.agg #[.slice A2 cs.length c3], .bool true]) (by simp [results, Try.results53, c2, go_sem]) rfl (RetEO.some_ Hf.out (Own.out.low hszz) Hml.out.symm (F2.out.done _))

set_option maxHeartbeats 800000 in
theorem sTurnSecond_any (A : Option Addr) (c : Nat) (cs : List ByteArray) (w : World) (h : SS w A cs) (hs : Short cs) :
    Calls Try.prog 54 #[.agg #[.slice A cs.length c]] w fun e w' => RetEO 9 w.heap.size w (turnF (halfV 1) cs) e w' := by
  have Hh := hd h
  have Hs := hd hs
  have F0 := hd (Fr.start w (.slice A cs.length c) (.slice none 0 0) 31 31)
  clear h hs
  cases hv : engV cs
  · have Hf : Hid (turnF (halfV 1) cs = none) := hd (turnF_none hv)
    have Hv := hd hv
    clear hv
    go_enter Try.func54, Try.ntmps54
    go_wp2_with fail
    refine (sEngineValid_b _ A c cs false _ rfl ((Hh.out.alloc _).alloc _) Hs.out Hv.out).mono ?_
    rintro e w1 ⟨rfl, b1⟩
    have F1 := hd (F0.out.below b1)
    obtain ⟨⟨c1, f1⟩, ⟨c2, f2⟩, -, -⟩ := F1.out
    clear b1
    go_wp2
    exact bodyPost_ret (v := .tuple #[.agg #[.slice none 0 0], .bool false]) (by simp [results, Try.results54, c2, go_sem]) rfl (RetEO.none_ Hf.out (F1.out.done _))
  · have Hf := hd (turnF_some (f := (halfV 1)) hv)
    obtain ⟨he, hW1, hW12, hn1, hn7⟩ := engV_vals hv
    have Hl : Hid ((cvs cs).length = cs.length) := hd (by simp [cvs])
    obtain ⟨W, hW⟩ : ∃ W, W = hsz cs := ⟨_, rfl⟩
    obtain ⟨vs, hvs⟩ : ∃ vs, vs = cvs cs := ⟨_, rfl⟩
    rw [← hW, ← hvs] at he Hf
    rw [← hW] at hW1 hW12
    rw [← hvs] at hn1 hn7 Hl
    have He := hd he
    have Hv := hd hv
    rw [Hl.out] at hn1 hn7
    have Hml : Hid ((eng W (halfV 1 vs)).length = cs.length) := hd (by rw [eng_length, halfV_length, Hl.out])
    clear he hv hW hvs
    go_enter Try.func54, Try.ntmps54
    go_wp2_with fail
    refine (sEngineValid_b _ A c cs true _ rfl ((Hh.out.alloc _).alloc _) Hs.out Hv.out).mono ?_
    rintro e w1 ⟨rfl, b1⟩
    have F1 := hd (F0.out.below b1)
    have S1 : Hid (SS w1 A (eng W vs)) := hd (by rw [← He.out]; exact (Hh.out.below F1.out.2.2.2))
    obtain ⟨⟨c1, f1⟩, ⟨c2, f2⟩, -, -⟩ := F1.out
    clear b1
    go_wp2_with fail
    refine (l3Half_any W 1 vs A c cs.length _ S1.out hW1 hW12 Hl.out hn1 hn7 (by decide)).mono ?_
    rintro e w2 ⟨A2, c3, rfl, own2, b2⟩
    rw [Hml.out]
    have F2 := hd (F1.out.below b2)
    have Own := hd (own2.keep_lo (grown_set w2 ⟨w.heap.size + 1, 0, none⟩ (.slice A2 cs.length c3)) (fun r hr => by simp at hr; have := F1.out.2.2.1; omega))
    have hszz : w.heap.size ≤ w1.heap.size := F1.out.2.2.2.size
    clear c1 f1 c2 f2
    obtain ⟨⟨c1, f1⟩, ⟨c2, f2⟩, -, -⟩ := F2.out
    clear b2 own2
    go_wp2
    exact bodyPost_ret (v := .tuple #[.agg #[.slice A2 cs.length c3], .bool true]) (by simp [results, Try.results54, c2, go_sem]) rfl (RetEO.some_ Hf.out (Own.out.low hszz) Hml.out.symm (F2.out.done _))

end Go.Proofs.Ytcalheieakppmaa
