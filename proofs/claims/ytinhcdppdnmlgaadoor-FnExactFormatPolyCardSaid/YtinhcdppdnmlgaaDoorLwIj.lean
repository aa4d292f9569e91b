/- The walk of the exact law of FormatPoly: the law returns true, whatever the input. -/
import Derived.Test.YtinhcdppdnmlgaaDoorLwH
import Derived.Test.YtinhcdppdnmlgaaDoorTxC
import Derived.Deep.RegionLaw
namespace Go.Proofs.YtinhcdppdnmlgaaDoor
open Go.RowKit
set_option maxRecDepth 4000

theorem ExactFormatPoly_big0 (A0 : Option Addr) (c0 n0 : Nat) (w : World)  (hx1 : 1048576 < n0) (hx2 : n0 ≤ 9223372036854775807) :
    Calls Tryd.prog 5 #[.slice A0 n0 c0] w fun e w' => e = .returned (.bool true) ∧ Below w.heap.size w w' := by
  have hbig' : (1048576 : Int) < n0 := by omega
  go_enter Tryd.func5, Tryd.ntmps5
  go_wp2
  go_ret
  exact ⟨rfl, Below.refl _ _⟩

set_option maxHeartbeats 8000000 in
theorem ExactFormatPoly_walk (A0 : Option Addr) (c0 : Nat) (cs0 : List Int) (w : World) (h0 : SG (Value.int .i64) w A0 cs0) (hbig0 : cs0.length ≤ 1048576) (ht : Tab w) :
    Calls Tryd.prog 5 #[.slice A0 cs0.length c0] w fun e w' => e = .returned (.bool true) ∧ Below w.heap.size w w' := by
  have Ht := hd ht
  clear ht
  have H0 := hd h0
  have k0 : Below w.heap.size w w := (Below.refl w.heap.size w)
  clear h0
  go_enter Tryd.func5, Tryd.ntmps5
  obtain ⟨z, Hz⟩ : ∃ z, Hid ((fmtP cs0) = z) := ⟨_, hd rfl⟩
  go_wp2_with fail
  refine (toInts_r A0 c0 _ cs0 _ (H0.out.below k0) rfl hbig0).mono ?_
  rintro e w1 ⟨B1, d1, rfl, own1, b1⟩
  have S1 := hd b1.size
  have k1 := k0.trans (b1.mono k0.size)
  have IT0 := hd (In.of own1)
  have T0 := hd own1
  clear own1
  clear b1
  go_wp2_with fail
  refine (sFormatPoly_z  B1 d1 _ cs0 z _ rfl T0.out.sg (Ht.out.below k1) Hz.out).mono ?_
  rintro e w2 ⟨rfl, b2⟩
  have T0 := hd (T0.out.below b2)
  have S2 := hd b2.size
  have k2 := k1.trans (b2.mono k1.size)
  clear b2
  clear T0
  go_wp2_with fail
  refine (toInts_r A0 c0 _ cs0 _ (H0.out.below k2) rfl hbig0).mono ?_
  rintro e w3 ⟨B3, d3, rfl, own3, b3⟩
  have S3 := hd b3.size
  have k3 := k2.trans (b3.mono k2.size)
  have ILX0 := hd (In.of own3)
  have LX0 := hd own3
  clear own3
  clear b3
  go_wp2_with fail
  refine (FormatPoly_z  B3 d3 _ cs0 z _ rfl LX0.out.sg (Ht.out.below k3) Hz.out).mono ?_
  rintro e w4 ⟨rfl, b4⟩
  have LX0 := hd (LX0.out.below b4)
  have S4 := hd b4.size
  have k4 := k3.trans (b4.mono k3.size)
  clear b4
  go_wp2_with fail
  refine (toInts_r A0 c0 _ cs0 _ (H0.out.below k4) rfl hbig0).mono ?_
  rintro e w5 ⟨B5, d5, rfl, own5, b5⟩
  have LX0 := hd (LX0.out.below b5)
  have S5 := hd b5.size
  have k5 := k4.trans (b5.mono k4.size)
  have ITT0 := hd (In.of own5)
  have TT0 := hd own5
  clear own5
  clear b5
  go_wp2_with fail
  refine (eqInts_same _ B3 B5 d3 d5 cs0 _ rfl LX0.out.sg TT0.out.sg).mono ?_
  rintro e w6 ⟨rfl, b6⟩
  have LX0 := hd (LX0.out.below b6)
  have TT0 := hd (TT0.out.below b6)
  have S6 := hd b6.size
  have k6 := k5.trans (b6.mono k5.size)
  clear b6
  clear TT0
  go_wp2
  go_ret
  exact ⟨rfl, k6⟩

end Go.Proofs.YtinhcdppdnmlgaaDoor
