/- The walk of the exact law of ResultOf: the law returns true, whatever the input. -/
import Derived.Test.YtbjdjhebngeekaaLwA
import Derived.Test.YtbjdjhebngeekaaSpeT
import Derived.Deep.RegionLaw
namespace Go.Proofs.Ytbjdjhebngeekaa
open Go.RowKit

theorem ExactResultOf_big (A : Option Addr) (c n : Nat) (w : World) (h1 : 1048576 < n) (h2 : n ≤ 9223372036854775807) :
    Calls Try.prog 4 #[.agg #[.slice A n c]] w fun e w' => e = .returned (.bool true) ∧ Below w.heap.size w w' := by
  go_enter Try.func4, Try.ntmps4
  go_wp2_with fail
  refine (szEngine_big A c n 1048576 _ h1 h2 (by decide) (by decide)).mono ?_
  rintro e w1 ⟨rfl, b1⟩
  have k1 := (((Below.refl w.heap.size w).alloc (Nat.le_refl _) (.cells #[.slice A n c] 24)).trans (b1.mono (by simp)))
  clear b1
  go_wp2
  go_ret
  exact ⟨rfl, k1⟩

set_option maxHeartbeats 4000000 in
theorem ExactResultOf_walk (A : Option Addr) (c : Nat) (cs : List ByteArray) (w : World) (h : SS w A cs) (hbig : cs.length ≤ 1048576) (hm : ∀ s ∈ cs, s.size ≤ maxLen) :
    Calls Try.prog 4 #[.agg #[.slice A cs.length c]] w fun e w' => e = .returned (.bool true) ∧ Below w.heap.size w w' := by
  have H0 := hd h
  have Hm := hd hm
  have Box := hd (Cl.new w (.slice A cs.length c) 24)
  have k0 : Below w.heap.size w (w.alloc (.cells #[.slice A cs.length c] 24)) := (Below.refl w.heap.size w).alloc (Nat.le_refl _) _
  clear h hm
  go_enter Try.func4, Try.ntmps4
  go_wp2_with fail
  refine (szEngine_any A c cs 1048576 _ (H0.out.below k0) hbig Hm.out (by decide) (by decide)).mono ?_
  rintro e w1 ⟨r, rfl, hr1, hr2, b1⟩
  have Box := hd (Box.out.below b1)
  have k1 := k0.trans (b1.mono k0.size)
  clear b1
  obtain ⟨box1, box2, -⟩ := Box.out
  rcases hr2 with rfl | ⟨hr0, hsh⟩
  · go_wp2
    go_ret
    exact ⟨rfl, k1⟩
  have Hsh := hd hsh
  clear hsh
  obtain ⟨x, ok, Hr⟩ : ∃ x ok, Hid (resF cs = (x, ok)) := ⟨_, _, hd rfl⟩
  go_wp2_with fail
  refine (toEngine_any A c _ cs _ (H0.out.below k1) rfl hbig).mono ?_
  rintro e w2 ⟨A2, c2, rfl, own2, b2⟩
  clear box1 box2
  have Box := hd (Box.out.below b2)
  have k2 := k1.trans (b2.mono k1.size)
  have T2 := hd own2
  clear own2
  clear b2
  obtain ⟨box1, box2, -⟩ := Box.out
  go_wp2_with fail
  refine (sResultOf_r _ A2 c2 cs x ok _ rfl T2.out.sg Hsh.out Hr.out).mono ?_
  rintro e w3 ⟨rfl, b3⟩
  clear box1 box2
  have Box := hd (Box.out.below b3)
  have T2 := hd (T2.out.below b3)
  have k3 := k2.trans (b3.mono k2.size)
  clear b3
  obtain ⟨box1, box2, -⟩ := Box.out
  go_wp2_with fail
  refine (toEngine_any A c _ cs _ (H0.out.below k3) rfl hbig).mono ?_
  rintro e w4 ⟨A4, c4, rfl, own4, b4⟩
  clear box1 box2
  have Box := hd (Box.out.below b4)
  have T2 := hd (T2.out.below b4)
  have k4 := k3.trans (b4.mono k3.size)
  have T4 := hd own4
  clear own4
  clear b4
  obtain ⟨box1, box2, -⟩ := Box.out
  have X0 := hd (Cl.new w4 (.slice A4 cs.length c4) 27)
  clear box1 box2
  have Box := hd (Box.out.alloc (.cells #[.slice A4 cs.length c4] 27))
  have T2 := hd (T2.out.alloc (.cells #[.slice A4 cs.length c4] 27))
  have T4 := hd (T4.out.alloc (.cells #[.slice A4 cs.length c4] 27))
  have k4 := k4.alloc k4.size (.cells #[.slice A4 cs.length c4] 27)
  obtain ⟨box1, box2, -⟩ := Box.out
  obtain ⟨x01, x02, -⟩ := X0.out
  go_wp2_with fail
  refine (ResultOf_r _ A4 c4 cs x ok _ rfl T4.out.sg Hsh.out Hr.out).mono ?_
  rintro e w5 ⟨rfl, b5⟩
  clear box1 box2 x01 x02
  have Box := hd (Box.out.below b5)
  have X0 := hd (X0.out.below b5)
  have T2 := hd (T2.out.below b5)
  have T4 := hd (T4.out.below b5)
  have k5 := k4.trans (b5.mono k4.size)
  clear b5
  obtain ⟨box1, box2, -⟩ := Box.out
  obtain ⟨x01, x02, -⟩ := X0.out
  go_wp2
  go_region_law (first | (go_simp; go_at_call 22; refine (toEngine_any A c _ cs _ (H0.out.below (k5.drew)) rfl hbig).mono ?_; rintro e w6 ⟨A6, c6, rfl, own6, b6⟩; clear box1 box2 x01 x02; have Box := hd (Box.out.drew.below b6); have X0 := hd (X0.out.drew.below b6); have T2 := hd (T2.out.drew.below b6); have T4 := hd (T4.out.drew.below b6); have k6 := k5.drew.trans (b6.mono k5.size); have T6 := hd own6; clear own6; clear b6; obtain ⟨box1, box2, -⟩ := Box.out; obtain ⟨x01, x02, -⟩ := X0.out) | (go_simp; go_at_call 24; refine (eqEngine_same _ A4 A6 c4 c6 cs _ rfl T4.out.sg T6.out.sg).mono ?_; rintro e w7 ⟨rfl, b7⟩; clear box1 box2 x01 x02; have Box := hd (Box.out.below b7); have X0 := hd (X0.out.below b7); have T2 := hd (T2.out.below b7); have T4 := hd (T4.out.below b7); have T6 := hd (T6.out.below b7); have k7 := k6.trans (b7.mono k6.size); clear b7; obtain ⟨box1, box2, -⟩ := Box.out; obtain ⟨x01, x02, -⟩ := X0.out))
  all_goals
    go_wp2
    go_ret
    exact ⟨rfl, k7⟩

end Go.Proofs.Ytbjdjhebngeekaa
