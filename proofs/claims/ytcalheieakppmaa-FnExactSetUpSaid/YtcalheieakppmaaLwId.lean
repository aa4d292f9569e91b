/- The walk of the exact law of SetUp: the law returns true, whatever the input. -/
import Derived.Test.YtcalheieakppmaaLwH
import Derived.Test.YtcalheieakppmaaEngM
import Derived.Deep.RegionLaw
namespace Go.Proofs.Ytcalheieakppmaa
open Go.RowKit
set_option maxRecDepth 4000

theorem ExactSetUp_big0 (A0 : Option Addr) (c0 n0 : Nat) (N1 : Int) (N2 : Int) (w : World)  (hx1 : 1048576 < n0) (hx2 : n0 ≤ 9223372036854775807) :
    Calls Try.prog 7 #[.slice A0 n0 c0, .int .i64 N1, .int .i64 N2] w fun e w' => e = .returned (.bool true) ∧ Below w.heap.size w w' := by
  have hbig' : (1048576 : Int) < n0 := by omega
  go_enter Try.func7, Try.ntmps7
  go_wp2
  go_ret
  exact ⟨rfl, Below.refl _ _⟩

set_option maxHeartbeats 8000000 in
theorem ExactSetUp_walk (A0 : Option Addr) (c0 : Nat) (cs0 : List Int) (N1 : Int) (N2 : Int) (w : World) (h0 : SG (Value.int .i64) w A0 cs0) (hbig0 : cs0.length ≤ 1048576) :
    Calls Try.prog 7 #[.slice A0 cs0.length c0, .int .i64 N1, .int .i64 N2] w fun e w' => e = .returned (.bool true) ∧ Below w.heap.size w w' := by
  have H0 := hd h0
  have k0 : Below w.heap.size w w := (Below.refl w.heap.size w)
  clear h0
  go_enter Try.func7, Try.ntmps7
  obtain ⟨z, ok, Hz⟩ : ∃ z ok, Hid ((setF cs0 N1 N2).getD [] = z ∧ (setF cs0 N1 N2).isSome = ok) := ⟨_, _, hd ⟨rfl, rfl⟩⟩
  have Hzl : Hid (z.length ≤ 1048576) := hd (setF_length Hz.out.1)
  obtain ⟨m, Hm_, hm0⟩ : ∃ m : Int, Hid (((1 + z.length : Nat) : Int) = m) ∧ ¬ m < 0 := ⟨_, hd rfl, by omega⟩
  obtain ⟨m0, Hmx0, hm00⟩ : ∃ m : Int, Hid (((1 + cs0.length : Nat) : Int) = m) ∧ ¬ m < 0 := ⟨_, hd rfl, by omega⟩
  go_wp2_with fail
  refine (toInts_r A0 c0 _ cs0 _ (H0.out.below k0) rfl hbig0).mono ?_
  rintro e w1 ⟨B1, d1, rfl, own1, b1⟩
  have S1 := hd b1.size
  have k1 := k0.trans (b1.mono k0.size)
  have IT0 := hd (In.of own1)
  have T0 := hd own1
  clear own1
  clear b1
  go_wp2_with fail
  refine (sSetUp_z N1 N2 B1 d1 _ cs0 z ok _ rfl T0.out.sg T0.out.cap Hz.out).mono ?_
  rintro e w2 ⟨B2, d2, rfl, own2, b2⟩
  have T0 := hd (T0.out.below b2)
  have S2 := hd b2.size
  have k2 := k1.trans (b2.mono k1.size)
  have ILW := hd (In.of own2)
  have LW := hd own2
  clear own2
  clear b2
  clear T0
  have W0 := hd (Cl.new w2 (.slice B2 z.length d2) 31)
  have LW := hd (LW.out.alloc (.cells #[.slice B2 z.length d2] 31))
  have k2 := k2.alloc k2.size (.cells #[.slice B2 z.length d2] 31)
  obtain ⟨w01, w02, -⟩ := W0.out
  go_wp2_with fail
  refine (toInts_r A0 c0 _ cs0 _ (H0.out.below k2) rfl hbig0).mono ?_
  rintro e w3 ⟨B3, d3, rfl, own3, b3⟩
  clear w01 w02
  have W0 := hd (W0.out.below b3)
  have LW := hd (LW.out.below b3)
  have S3 := hd b3.size
  have k3 := k2.trans (b3.mono k2.size)
  have ILX0 := hd (In.of own3)
  have LX0 := hd own3
  clear own3
  clear b3
  obtain ⟨w01, w02, -⟩ := W0.out
  go_wp2_with fail
  refine (SetUp_z N1 N2 B3 d3 _ cs0 z ok _ rfl LX0.out.sg LX0.out.cap Hz.out).mono ?_
  rintro e w4 ⟨B4, d4, rfl, own4, b4⟩
  clear w01 w02
  have W0 := hd (W0.out.below b4)
  have LW := hd (LW.out.below b4)
  have LX0 := hd (LX0.out.below b4)
  have S4 := hd b4.size
  have k4 := k3.trans (b4.mono k3.size)
  have ILG := hd (In.of own4)
  have LG := hd own4
  clear own4
  clear b4
  obtain ⟨w01, w02, -⟩ := W0.out
  clear w01 w02
  have G0 := hd (Cl.new w4 (.slice B4 z.length d4) 31)
  have W0 := hd (W0.out.alloc (.cells #[.slice B4 z.length d4] 31))
  have LW := hd (LW.out.alloc (.cells #[.slice B4 z.length d4] 31))
  have LX0 := hd (LX0.out.alloc (.cells #[.slice B4 z.length d4] 31))
  have LG := hd (LG.out.alloc (.cells #[.slice B4 z.length d4] 31))
  have k4 := k4.alloc k4.size (.cells #[.slice B4 z.length d4] 31)
  obtain ⟨w01, w02, -⟩ := W0.out
  obtain ⟨g01, g02, -⟩ := G0.out
  go_wp2_with fail
  refine (eqEngine_same _ B4 B2 d4 d2 z _ rfl LG.out.sg LW.out.sg).mono ?_
  rintro e w5 ⟨rfl, b5⟩
  clear w01 w02 g01 g02
  have W0 := hd (W0.out.below b5)
  have G0 := hd (G0.out.below b5)
  have LW := hd (LW.out.below b5)
  have LX0 := hd (LX0.out.below b5)
  have LG := hd (LG.out.below b5)
  have S5 := hd b5.size
  have k5 := k4.trans (b5.mono k4.size)
  clear b5
  obtain ⟨w01, w02, -⟩ := W0.out
  obtain ⟨g01, g02, -⟩ := G0.out
  go_wp2_with fail
  refine (toInts_r A0 c0 _ cs0 _ (H0.out.below k5) rfl hbig0).mono ?_
  rintro e w6 ⟨B6, d6, rfl, own6, b6⟩
  clear w01 w02 g01 g02
  have W0 := hd (W0.out.below b6)
  have G0 := hd (G0.out.below b6)
  have LW := hd (LW.out.below b6)
  have LX0 := hd (LX0.out.below b6)
  have LG := hd (LG.out.below b6)
  have S6 := hd b6.size
  have k6 := k5.trans (b6.mono k5.size)
  have ITT0 := hd (In.of own6)
  have TT0 := hd own6
  clear own6
  clear b6
  obtain ⟨w01, w02, -⟩ := W0.out
  obtain ⟨g01, g02, -⟩ := G0.out
  go_wp2_with fail
  refine (eqInts_same _ B3 B6 d3 d6 cs0 _ rfl LX0.out.sg TT0.out.sg).mono ?_
  rintro e w7 ⟨rfl, b7⟩
  clear w01 w02 g01 g02
  have W0 := hd (W0.out.below b7)
  have G0 := hd (G0.out.below b7)
  have LW := hd (LW.out.below b7)
  have LX0 := hd (LX0.out.below b7)
  have LG := hd (LG.out.below b7)
  have TT0 := hd (TT0.out.below b7)
  have S7 := hd b7.size
  have k7 := k6.trans (b7.mono k6.size)
  clear b7
  obtain ⟨w01, w02, -⟩ := W0.out
  obtain ⟨g01, g02, -⟩ := G0.out
  clear w01 w02 g01 g02
  clear TT0
  obtain ⟨w01, w02, -⟩ := W0.out
  obtain ⟨g01, g02, -⟩ := G0.out
  go_wp2_with fail
  refine (markI1 _ cs0.length B3 d3 cs0 _ _ rfl LX0.out (by have q1 := S1.out; have q2 := S2.out; have q3 := S3.out; have q4 := S4.out; have q5 := S5.out; have q6 := S6.out; have q7 := S7.out; try simp only [sz_alloc] at q1 q2 q3 q4 q5 q6 q7 ⊢; omega) hbig0 Hmx0.out).mono ?_
  rintro e w8 ⟨rfl, own8, b8, bs8⟩
  clear w01 w02 g01 g02
  have W0 := hd (W0.out.beside bs8 ILX0.out (by have q1 := S1.out; have q2 := S2.out; have q3 := S3.out; have q4 := S4.out; have q5 := S5.out; have q6 := S6.out; have q7 := S7.out; try simp only [sz_alloc] at q1 q2 q3 q4 q5 q6 q7 ⊢; omega))
  have G0 := hd (G0.out.beside bs8 ILX0.out (by have q1 := S1.out; have q2 := S2.out; have q3 := S3.out; have q4 := S4.out; have q5 := S5.out; have q6 := S6.out; have q7 := S7.out; try simp only [sz_alloc] at q1 q2 q3 q4 q5 q6 q7 ⊢; omega))
  have LW := hd (LW.out.beside_hi bs8 ILX0.out ILW.out (by have q1 := S1.out; have q2 := S2.out; have q3 := S3.out; have q4 := S4.out; have q5 := S5.out; have q6 := S6.out; have q7 := S7.out; try simp only [sz_alloc] at q1 q2 q3 q4 q5 q6 q7 ⊢; omega))
  have LG := hd (LG.out.beside_lo bs8 ILX0.out (by have q1 := S1.out; have q2 := S2.out; have q3 := S3.out; have q4 := S4.out; have q5 := S5.out; have q6 := S6.out; have q7 := S7.out; try simp only [sz_alloc] at q1 q2 q3 q4 q5 q6 q7 ⊢; omega))
  have S8 := hd b8.size
  have k8 := k7.trans (b8.mono (by have q1 := S1.out; have q2 := S2.out; have q3 := S3.out; have q4 := S4.out; have q5 := S5.out; have q6 := S6.out; have q7 := S7.out; try simp only [sz_alloc] at q1 q2 q3 q4 q5 q6 q7 ⊢; omega))
  have LX0 := hd own8
  clear own8 b8 bs8
  obtain ⟨w01, w02, -⟩ := W0.out
  obtain ⟨g01, g02, -⟩ := G0.out
  clear w01 w02 g01 g02
  clear LX0
  obtain ⟨w01, w02, -⟩ := W0.out
  obtain ⟨g01, g02, -⟩ := G0.out
  go_wp2_with fail
  refine (eqEngine_same _ B4 B2 d4 d2 z _ rfl LG.out.sg LW.out.sg).mono ?_
  rintro e w9 ⟨rfl, b9⟩
  clear w01 w02 g01 g02
  have W0 := hd (W0.out.below b9)
  have G0 := hd (G0.out.below b9)
  have LW := hd (LW.out.below b9)
  have LG := hd (LG.out.below b9)
  have S9 := hd b9.size
  have k9 := k8.trans (b9.mono k8.size)
  clear b9
  obtain ⟨w01, w02, -⟩ := W0.out
  obtain ⟨g01, g02, -⟩ := G0.out
  go_wp2_with fail
  refine (markE _ z.length B4 d4 z (1) 1 _ _ rfl LG.out (by have q1 := S1.out; have q2 := S2.out; have q3 := S3.out; have q4 := S4.out; have q5 := S5.out; have q6 := S6.out; have q7 := S7.out; have q8 := S8.out; have q9 := S9.out; try simp only [sz_alloc] at q1 q2 q3 q4 q5 q6 q7 q8 q9 ⊢; omega) Hzl.out rfl (by omega) (by omega) Hm_.out).mono ?_
  rintro e w10 ⟨rfl, own10, b10, bs10⟩
  clear w01 w02 g01 g02
  have W0 := hd (W0.out.beside bs10 ILG.out (by have q1 := S1.out; have q2 := S2.out; have q3 := S3.out; have q4 := S4.out; have q5 := S5.out; have q6 := S6.out; have q7 := S7.out; have q8 := S8.out; have q9 := S9.out; try simp only [sz_alloc] at q1 q2 q3 q4 q5 q6 q7 q8 q9 ⊢; omega))
  have G0 := hd (G0.out.beside bs10 ILG.out (by have q1 := S1.out; have q2 := S2.out; have q3 := S3.out; have q4 := S4.out; have q5 := S5.out; have q6 := S6.out; have q7 := S7.out; have q8 := S8.out; have q9 := S9.out; try simp only [sz_alloc] at q1 q2 q3 q4 q5 q6 q7 q8 q9 ⊢; omega))
  have LW := hd (LW.out.beside_hi bs10 ILG.out ILW.out (by have q1 := S1.out; have q2 := S2.out; have q3 := S3.out; have q4 := S4.out; have q5 := S5.out; have q6 := S6.out; have q7 := S7.out; have q8 := S8.out; have q9 := S9.out; try simp only [sz_alloc] at q1 q2 q3 q4 q5 q6 q7 q8 q9 ⊢; omega))
  have S10 := hd b10.size
  have k10 := k9.trans (b10.mono (by have q1 := S1.out; have q2 := S2.out; have q3 := S3.out; have q4 := S4.out; have q5 := S5.out; have q6 := S6.out; have q7 := S7.out; have q8 := S8.out; have q9 := S9.out; try simp only [sz_alloc] at q1 q2 q3 q4 q5 q6 q7 q8 q9 ⊢; omega))
  have LG := hd own10
  clear own10 b10 bs10
  obtain ⟨w01, w02, -⟩ := W0.out
  obtain ⟨g01, g02, -⟩ := G0.out
  go_wp2_with fail
  refine (held1 _ B4 d4 m _ LG.out.sg Hzl.out Hm_.out).mono ?_
  rintro e w11 ⟨rfl, b11⟩
  clear w01 w02 g01 g02
  have W0 := hd (W0.out.below b11)
  have G0 := hd (G0.out.below b11)
  have LW := hd (LW.out.below b11)
  have LG := hd (LG.out.below b11)
  have S11 := hd b11.size
  have k11 := k10.trans (b11.mono k10.size)
  clear b11
  obtain ⟨w01, w02, -⟩ := W0.out
  obtain ⟨g01, g02, -⟩ := G0.out
  go_wp2_with fail
  refine (toInts_r A0 c0 _ cs0 _ (H0.out.below k11) rfl hbig0).mono ?_
  rintro e w12 ⟨B12, d12, rfl, own12, b12⟩
  clear w01 w02 g01 g02
  have W0 := hd (W0.out.below b12)
  have G0 := hd (G0.out.below b12)
  have LW := hd (LW.out.below b12)
  have LG := hd (LG.out.below b12)
  have S12 := hd b12.size
  have k12 := k11.trans (b12.mono k11.size)
  have IT0 := hd (In.of own12)
  have T0 := hd own12
  clear own12
  clear b12
  obtain ⟨w01, w02, -⟩ := W0.out
  obtain ⟨g01, g02, -⟩ := G0.out
  go_wp2_with fail
  refine (SetUp_z N1 N2 B12 d12 _ cs0 z ok _ rfl T0.out.sg T0.out.cap Hz.out).mono ?_
  rintro e w13 ⟨B13, d13, rfl, own13, b13⟩
  clear w01 w02 g01 g02
  have W0 := hd (W0.out.below b13)
  have G0 := hd (G0.out.below b13)
  have LW := hd (LW.out.below b13)
  have LG := hd (LG.out.below b13)
  have T0 := hd (T0.out.below b13)
  have S13 := hd b13.size
  have k13 := k12.trans (b13.mono k12.size)
  have ILH := hd (In.of own13)
  have LH := hd own13
  clear own13
  clear b13
  obtain ⟨w01, w02, -⟩ := W0.out
  obtain ⟨g01, g02, -⟩ := G0.out
  clear w01 w02 g01 g02
  have Q0 := hd (Cl.new w13 (.slice B13 z.length d13) 31)
  have W0 := hd (W0.out.alloc (.cells #[.slice B13 z.length d13] 31))
  have G0 := hd (G0.out.alloc (.cells #[.slice B13 z.length d13] 31))
  have LW := hd (LW.out.alloc (.cells #[.slice B13 z.length d13] 31))
  have LG := hd (LG.out.alloc (.cells #[.slice B13 z.length d13] 31))
  have T0 := hd (T0.out.alloc (.cells #[.slice B13 z.length d13] 31))
  have LH := hd (LH.out.alloc (.cells #[.slice B13 z.length d13] 31))
  have k13 := k13.alloc k13.size (.cells #[.slice B13 z.length d13] 31)
  obtain ⟨w01, w02, -⟩ := W0.out
  obtain ⟨g01, g02, -⟩ := G0.out
  obtain ⟨q01, q02, -⟩ := Q0.out
  go_wp2_with fail
  refine (eqEngine_same _ B13 B2 d13 d2 z _ rfl LH.out.sg LW.out.sg).mono ?_
  rintro e w14 ⟨rfl, b14⟩
  clear w01 w02 g01 g02 q01 q02
  have W0 := hd (W0.out.below b14)
  have G0 := hd (G0.out.below b14)
  have Q0 := hd (Q0.out.below b14)
  have LW := hd (LW.out.below b14)
  have LG := hd (LG.out.below b14)
  have T0 := hd (T0.out.below b14)
  have LH := hd (LH.out.below b14)
  have S14 := hd b14.size
  have k14 := k13.trans (b14.mono k13.size)
  clear b14
  obtain ⟨w01, w02, -⟩ := W0.out
  obtain ⟨g01, g02, -⟩ := G0.out
  obtain ⟨q01, q02, -⟩ := Q0.out
  go_wp2_with fail
  refine (held1 _ B4 d4 m _ LG.out.sg Hzl.out Hm_.out).mono ?_
  rintro e w15 ⟨rfl, b15⟩
  clear w01 w02 g01 g02 q01 q02
  have W0 := hd (W0.out.below b15)
  have G0 := hd (G0.out.below b15)
  have Q0 := hd (Q0.out.below b15)
  have LW := hd (LW.out.below b15)
  have LG := hd (LG.out.below b15)
  have T0 := hd (T0.out.below b15)
  have LH := hd (LH.out.below b15)
  have S15 := hd b15.size
  have k15 := k14.trans (b15.mono k14.size)
  clear b15
  obtain ⟨w01, w02, -⟩ := W0.out
  obtain ⟨g01, g02, -⟩ := G0.out
  obtain ⟨q01, q02, -⟩ := Q0.out
  go_wp2
  go_ret
  exact ⟨rfl, k15⟩

end Go.Proofs.Ytcalheieakppmaa
