/- The walk of the exact law of CarriesOf: the law returns true, whatever the input. -/
import Derived.Test.YtinhcdppdnmlgaaLwH
import Derived.Test.YtinhcdppdnmlgaaTxQ
import Derived.Deep.RegionLaw
namespace Go.Proofs.Ytinhcdppdnmlgaa
open Go.RowKit
set_option maxRecDepth 4000

theorem ExactCarriesOf_big0 (A0 : Option Addr) (c0 n0 : Nat) (w : World)  (hx1 : 1048576 < n0) (hx2 : n0 ≤ 9223372036854775807) :
    Calls Try.prog 3 #[.agg #[.slice A0 n0 c0]] w fun e w' => e = .returned (.bool true) ∧ Below w.heap.size w w' := by
  have k0 : Below w.heap.size w (w.alloc (.cells #[.slice A0 n0 c0] 24)) := ((Below.refl w.heap.size w).alloc (by simp) (.cells #[.slice A0 n0 c0] 24))
  go_enter Try.func3, Try.ntmps3
  go_wp2_with fail
  refine (szEngine_big A0 c0 n0 1048576 _ hx1 hx2 (by decide) (by decide)).mono ?_
  rintro e w1 ⟨rfl, b1⟩
  have k1 := k0.trans (b1.mono k0.size)
  clear b1
  go_wp2
  go_ret
  exact ⟨rfl, k1⟩

set_option maxHeartbeats 8000000 in
theorem ExactCarriesOf_walk (A0 : Option Addr) (c0 : Nat) (cs0 : List ByteArray) (w : World) (h0 : SS w A0 cs0) (hbig0 : cs0.length ≤ 1048576) (hm0 : ∀ s ∈ cs0, s.size ≤ maxLen) :
    Calls Try.prog 3 #[.agg #[.slice A0 cs0.length c0]] w fun e w' => e = .returned (.bool true) ∧ Below w.heap.size w w' := by
  have H0 := hd h0
  have Hm0 := hd hm0
  have Box0 := hd (Cl.new w (.slice A0 cs0.length c0) 24)
  have k0 : Below w.heap.size w (w.alloc (.cells #[.slice A0 cs0.length c0] 24)) := ((Below.refl w.heap.size w).alloc (by simp) _)
  clear h0 hm0
  go_enter Try.func3, Try.ntmps3
  go_wp2_with fail
  refine (szEngine_any A0 c0 cs0 1048576 _ (H0.out.below k0) hbig0 Hm0.out (by decide) (by decide)).mono ?_
  rintro e w1 ⟨r0, rfl, hr01, hr02, b1⟩
  have Box0 := hd (Box0.out.below b1)
  have S1 := hd b1.size
  have k1 := k0.trans (b1.mono k0.size)
  clear b1
  obtain ⟨box01, box02, -⟩ := Box0.out
  rcases hr02 with rfl | ⟨hr00, hsh0⟩
  · go_wp2
    go_ret
    exact ⟨rfl, k1⟩
  have Hsh0 := hd hsh0
  clear hsh0
  obtain ⟨z, Hz⟩ : ∃ z, Hid ((carV cs0) = z) := ⟨_, hd rfl⟩
  go_wp2_with fail
  refine (toEngine_any A0 c0 _ cs0 _ (H0.out.below k1) rfl hbig0).mono ?_
  rintro e w2 ⟨B2, d2, rfl, own2, b2⟩
  clear box01 box02
  have Box0 := hd (Box0.out.below b2)
  have S2 := hd b2.size
  have k2 := k1.trans (b2.mono k1.size)
  have IT0 := hd (In.of own2)
  have T0 := hd own2
  clear own2
  clear b2
  obtain ⟨box01, box02, -⟩ := Box0.out
  go_wp2_with fail
  refine (sCarriesOf_z  B2 d2 _ cs0 z _ rfl T0.out.sg Hsh0.out Hz.out).mono ?_
  rintro e w3 ⟨rfl, b3⟩
  clear box01 box02
  have Box0 := hd (Box0.out.below b3)
  have T0 := hd (T0.out.below b3)
  have S3 := hd b3.size
  have k3 := k2.trans (b3.mono k2.size)
  clear b3
  obtain ⟨box01, box02, -⟩ := Box0.out
  clear box01 box02
  clear T0
  obtain ⟨box01, box02, -⟩ := Box0.out
  go_wp2_with fail
  refine (toEngine_any A0 c0 _ cs0 _ (H0.out.below k3) rfl hbig0).mono ?_
  rintro e w4 ⟨B4, d4, rfl, own4, b4⟩
  clear box01 box02
  have Box0 := hd (Box0.out.below b4)
  have S4 := hd b4.size
  have k4 := k3.trans (b4.mono k3.size)
  have ILX0 := hd (In.of own4)
  have LX0 := hd own4
  clear own4
  clear b4
  obtain ⟨box01, box02, -⟩ := Box0.out
  clear box01 box02
  have X0 := hd (Cl.new w4 (.slice B4 cs0.length d4) 27)
  have Box0 := hd (Box0.out.alloc (.cells #[.slice B4 cs0.length d4] 27))
  have LX0 := hd (LX0.out.alloc (.cells #[.slice B4 cs0.length d4] 27))
  have k4 := k4.alloc k4.size (.cells #[.slice B4 cs0.length d4] 27)
  obtain ⟨box01, box02, -⟩ := Box0.out
  obtain ⟨x01, x02, -⟩ := X0.out
  go_wp2_with fail
  refine (CarriesOf_z  B4 d4 _ cs0 z _ rfl LX0.out.sg Hsh0.out Hz.out).mono ?_
  rintro e w5 ⟨rfl, b5⟩
  clear box01 box02 x01 x02
  have Box0 := hd (Box0.out.below b5)
  have X0 := hd (X0.out.below b5)
  have LX0 := hd (LX0.out.below b5)
  have S5 := hd b5.size
  have k5 := k4.trans (b5.mono k4.size)
  clear b5
  obtain ⟨box01, box02, -⟩ := Box0.out
  obtain ⟨x01, x02, -⟩ := X0.out
  go_wp2
  go_region_law (first | (go_simp; go_at_call 7; refine (toEngine_any A0 c0 _ cs0 _ (H0.out.below (k5.drew)) rfl hbig0).mono ?_; rintro e w6 ⟨B6, d6, rfl, own6, b6⟩; clear box01 box02 x01 x02; have Box0 := hd (Box0.out.drew.below b6); have X0 := hd (X0.out.drew.below b6); have LX0 := hd (LX0.out.drew.below b6); have S6 := hd b6.size; have k6 := k5.drew.trans (b6.mono k5.size); have ITT0 := hd (In.of own6); have TT0 := hd own6; clear own6; clear b6; obtain ⟨box01, box02, -⟩ := Box0.out; obtain ⟨x01, x02, -⟩ := X0.out) | (go_simp; go_at_call 9; refine (eqEngine_same _ B4 B6 d4 d6 cs0 _ rfl LX0.out.sg TT0.out.sg).mono ?_; rintro e w7 ⟨rfl, b7⟩; clear box01 box02 x01 x02; have Box0 := hd (Box0.out.below b7); have X0 := hd (X0.out.below b7); have LX0 := hd (LX0.out.below b7); have TT0 := hd (TT0.out.below b7); have S7 := hd b7.size; have k7 := k6.trans (b7.mono k6.size); clear b7; obtain ⟨box01, box02, -⟩ := Box0.out; obtain ⟨x01, x02, -⟩ := X0.out))
  all_goals
    clear box01 box02 x01 x02
    clear TT0
    obtain ⟨box01, box02, -⟩ := Box0.out
    obtain ⟨x01, x02, -⟩ := X0.out
    go_wp2
    go_ret
    exact ⟨rfl, k7⟩

end Go.Proofs.Ytinhcdppdnmlgaa
