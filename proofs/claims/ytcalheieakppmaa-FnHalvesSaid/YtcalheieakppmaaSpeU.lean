/- The contract of the reference's TurnHalves, for whatever comes in. -/
import Derived.Test.YtcalheieakppmaaSpeN
import Derived.Test.YtcalheieakppmaaSpeS
namespace Go.Proofs.Ytcalheieakppmaa
open Go.RowKit
set_option maxRecDepth 4000

set_option maxHeartbeats 800000 in
theorem sTurnHalves_any (A : Option Addr) (c : Nat) (cs : List ByteArray) (w : World) (h : SS w A cs) (hs : Short cs) :
    Calls Try.prog 74 #[.agg #[.slice A cs.length c]] w fun e w' => RetEO 9 w.heap.size w (turnF halvesV cs) e w' := by
  have Hh := hd h
  have Hs := hd hs
  have F0 := hd (Fr.start w (.slice A cs.length c) (.slice none 0 0) 31 31)
  clear h hs
  cases hv : engV cs
  · have Hf : Hid (turnF halvesV cs = none) := hd (turnF_none hv)
    have Hv := hd hv
    clear hv
    go_enter Try.func74, Try.ntmps74
    go_wp2_with fail
    refine (sEngineValid_b _ A c cs false _ rfl ((Hh.out.alloc _).alloc _) Hs.out Hv.out).mono ?_
    rintro e w1 ⟨rfl, b1⟩
    have F1 := hd (F0.out.below b1)
    obtain ⟨⟨c1, f1⟩, ⟨c2, f2⟩, -, -⟩ := F1.out
    clear b1
    go_wp2
    exact bodyPost_ret (v := .tuple #[.agg #[.slice none 0 0], .bool false]) (by simp [results, Try.results74, c2, go_sem]) rfl (RetEO.none_ Hf.out (F1.out.done _))
  · have Hf := hd (turnF_some (f := halvesV) hv)
    obtain ⟨he, hW1, hW12, hn1, hn7⟩ := engV_vals hv
    have Hl : Hid ((cvs cs).length = cs.length) := hd (by simp [cvs])
    obtain ⟨W, hW⟩ : ∃ W, W = hsz cs := ⟨_, rfl⟩
    obtain ⟨vs, hvs⟩ : ∃ vs, vs = cvs cs := ⟨_, rfl⟩
    rw [← hW, ← hvs] at he Hf
    rw [← hW] at hW1 hW12
    rw [← hvs] at hn1 hn7 Hl
    have He := hd he
    have Hv := hd hv
    rw [Hl.out] at hn1 hn7
    have Hml : Hid ((eng W (halvesV vs)).length = cs.length) := hd (by rw [eng_length, halvesV_length, Hl.out])
    clear he hv hW hvs
    go_enter Try.func74, Try.ntmps74
    go_wp2_with fail
    refine (sEngineValid_b _ A c cs true _ rfl ((Hh.out.alloc _).alloc _) Hs.out Hv.out).mono ?_
    rintro e w1 ⟨rfl, b1⟩
    have F1 := hd (F0.out.below b1)
    have S1 : Hid (SS w1 A (eng W vs)) := hd (by rw [← He.out]; exact (Hh.out.below F1.out.2.2.2))
    obtain ⟨⟨c1, f1⟩, ⟨c2, f2⟩, -, -⟩ := F1.out
    clear b1
    go_wp2_with fail
    refine (l3Halves_any W vs A c cs.length _ S1.out hW1 hW12 Hl.out hn1 hn7).mono ?_
    rintro e w2 ⟨A2, c3, rfl, own2, b2⟩
    rw [Hml.out]
    have F2 := hd (F1.out.below b2)
    have Own := hd (own2.keep_lo (grown_set w2 ⟨w.heap.size + 1, 0, none⟩ (.slice A2 cs.length c3)) (fun r hr => by simp at hr; have := F1.out.2.2.1; omega))
    have hszz : w.heap.size ≤ w1.heap.size := F1.out.2.2.2.size
    clear c1 f1 c2 f2
    obtain ⟨⟨c1, f1⟩, ⟨c2, f2⟩, -, -⟩ := F2.out
    clear b2 own2
    go_wp2
    exact bodyPost_ret (v := .tuple #[.agg #[.slice A2 cs.length c3], .bool true]) (by simp [results, Try.results74, c2, go_sem]) rfl (RetEO.some_ Hf.out (Own.out.low hszz) Hml.out.symm (F2.out.done _))

end Go.Proofs.Ytcalheieakppmaa
