/- The walk of the exact law of ParsePoly: the law returns true, whatever the input. -/
import Derived.Test.YtinhcdppdnmlgaaDoorLwH
import Derived.Test.YtinhcdppdnmlgaaDoorTxG
import Derived.Deep.RegionLaw
namespace Go.Proofs.YtinhcdppdnmlgaaDoor
open Go.RowKit
set_option maxRecDepth 4000

theorem ExactParsePoly_big0 (N0 : ByteArray) (w : World) (hx1 : 1048576 < N0.size) (hx2 : N0.size ≤ 9223372036854775807) :
    Calls Tryd.prog 3 #[.string N0] w fun e w' => e = .returned (.bool true) ∧ Below w.heap.size w w' := by
  have hbig' : (1048576 : Int) < N0.size := by omega
  go_enter Tryd.func3, Tryd.ntmps3
  go_wp2
  go_ret
  exact ⟨rfl, Below.refl _ _⟩

set_option maxHeartbeats 8000000 in
theorem ExactParsePoly_walk (N0 : ByteArray) (w : World) (hb0 : N0.size ≤ 1048576) (ht : Env w) :
    Calls Tryd.prog 3 #[.string N0] w fun e w' => e = .returned (.bool true) ∧ Below w.heap.size w w' := by
  have Ht := hd ht
  clear ht
  have hbig0 : ¬ (1048576 : Int) < N0.size := by omega
  have k0 : Below w.heap.size w w := (Below.refl w.heap.size w)
  go_enter Tryd.func3, Tryd.ntmps3
  obtain ⟨z, ok, Hz⟩ : ∃ z ok, Hid ((polyF N0).getD [] = z ∧ (polyF N0).isSome = ok) := ⟨_, _, hd ⟨rfl, rfl⟩⟩
  have Hzl : Hid (z.length ≤ 1048576) := hd (polyF_length Hz.out.1)
  obtain ⟨m, Hm_, hm0⟩ : ∃ m : Int, Hid (((1 + z.length : Nat) : Int) = m) ∧ ¬ m < 0 := ⟨_, hd rfl, by omega⟩
  go_wp2_with fail
  refine (sParsePoly_z N0  z ok _  hb0 (Ht.out.below k0) Hz.out).mono ?_
  rintro e w1 ⟨B1, d1, rfl, own1, b1⟩
  have S1 := hd b1.size
  have k1 := k0.trans (b1.mono k0.size)
  have ILW := hd (In.of own1)
  have LW := hd own1
  clear own1
  clear b1
  go_wp2_with fail
  refine (ParsePoly_z N0  z ok _  hb0 (Ht.out.below k1) Hz.out).mono ?_
  rintro e w2 ⟨B2, d2, rfl, own2, b2⟩
  have LW := hd (LW.out.below b2)
  have S2 := hd b2.size
  have k2 := k1.trans (b2.mono k1.size)
  have ILG := hd (In.of own2)
  have LG := hd own2
  clear own2
  clear b2
  go_wp2_with fail
  refine (eqInts_same _ B2 B1 d2 d1 z _ rfl LG.out.sg LW.out.sg).mono ?_
  rintro e w3 ⟨rfl, b3⟩
  have LW := hd (LW.out.below b3)
  have LG := hd (LG.out.below b3)
  have S3 := hd b3.size
  have k3 := k2.trans (b3.mono k2.size)
  clear b3
  go_wp2_with fail
  refine (markI1 _ z.length B2 d2 z _ _ rfl LG.out (by have q1 := S1.out; have q2 := S2.out; have q3 := S3.out; (try simp only [sz_alloc] at q1 q2 q3 ⊢); omega) Hzl.out Hm_.out).mono ?_
  rintro e w4 ⟨rfl, own4, b4, bs4⟩
  have LW := hd (LW.out.beside_hi bs4 ILG.out ILW.out (by have q1 := S1.out; have q2 := S2.out; have q3 := S3.out; (try simp only [sz_alloc] at q1 q2 q3 ⊢); omega))
  have S4 := hd b4.size
  have k4 := k3.trans (b4.mono (by have q1 := S1.out; have q2 := S2.out; have q3 := S3.out; (try simp only [sz_alloc] at q1 q2 q3 ⊢); omega))
  have LG := hd own4
  clear own4 b4 bs4
  go_wp2_with fail
  refine (heldI1 _ B2 d2 m _ LG.out.sg Hzl.out Hm_.out).mono ?_
  rintro e w5 ⟨rfl, b5⟩
  have LW := hd (LW.out.below b5)
  have LG := hd (LG.out.below b5)
  have S5 := hd b5.size
  have k5 := k4.trans (b5.mono k4.size)
  clear b5
  go_wp2_with fail
  refine (ParsePoly_z N0  z ok _  hb0 (Ht.out.below k5) Hz.out).mono ?_
  rintro e w6 ⟨B6, d6, rfl, own6, b6⟩
  have LW := hd (LW.out.below b6)
  have LG := hd (LG.out.below b6)
  have S6 := hd b6.size
  have k6 := k5.trans (b6.mono k5.size)
  have ILH := hd (In.of own6)
  have LH := hd own6
  clear own6
  clear b6
  go_wp2_with fail
  refine (eqInts_same _ B6 B1 d6 d1 z _ rfl LH.out.sg LW.out.sg).mono ?_
  rintro e w7 ⟨rfl, b7⟩
  have LW := hd (LW.out.below b7)
  have LG := hd (LG.out.below b7)
  have LH := hd (LH.out.below b7)
  have S7 := hd b7.size
  have k7 := k6.trans (b7.mono k6.size)
  clear b7
  go_wp2_with fail
  refine (heldI1 _ B2 d2 m _ LG.out.sg Hzl.out Hm_.out).mono ?_
  rintro e w8 ⟨rfl, b8⟩
  have LW := hd (LW.out.below b8)
  have LG := hd (LG.out.below b8)
  have LH := hd (LH.out.below b8)
  have S8 := hd b8.size
  have k8 := k7.trans (b8.mono k7.size)
  clear b8
  go_wp2
  go_ret
  exact ⟨rfl, k8⟩

end Go.Proofs.YtinhcdppdnmlgaaDoor
