/- The walk of the exact law of RunHalves: the law returns true, whatever the input. -/
import Derived.Test.YtkmblobfamhoiaaLwH
import Derived.Test.YtkmblobfamhoiaaEngN
import Derived.Deep.RegionLaw
namespace Go.Proofs.Ytkmblobfamhoiaa
open Go.RowKit
set_option maxRecDepth 4000

theorem ExactRunHalves_big0 (A0 : Option Addr) (c0 n0 : Nat) (N1 : Int) (w : World)  (hx1 : 1048576 < n0) (hx2 : n0 ≤ 9223372036854775807) :
    Calls Try.prog 5 #[.agg #[.slice A0 n0 c0], .int .i64 N1] w fun e w' => e = .returned (.bool true) ∧ Below w.heap.size w w' := by
  have k0 : Below w.heap.size w (w.alloc (.cells #[.slice A0 n0 c0] 32)) := ((Below.refl w.heap.size w).alloc (by simp) (.cells #[.slice A0 n0 c0] 32))
  go_enter Try.func5, Try.ntmps5
  go_wp2_with fail
  refine (szEngine_big A0 c0 n0 1048576 _ hx1 hx2 (by decide) (by decide)).mono ?_
  rintro e w1 ⟨rfl, b1⟩
  have k1 := k0.trans (b1.mono k0.size)
  clear b1
  go_wp2
  go_ret
  exact ⟨rfl, k1⟩

set_option maxHeartbeats 8000000 in
theorem ExactRunHalves_walk (A0 : Option Addr) (c0 : Nat) (cs0 : List ByteArray) (N1 : Int) (w : World) (h0 : SS w A0 cs0) (hbig0 : cs0.length ≤ 1048576) (hm0 : ∀ s ∈ cs0, s.size ≤ maxLen) :
    Calls Try.prog 5 #[.agg #[.slice A0 cs0.length c0], .int .i64 N1] w fun e w' => e = .returned (.bool true) ∧ Below w.heap.size w w' := by
  have H0 := hd h0
  have Hm0 := hd hm0
  have Box0 := hd (Cl.new w (.slice A0 cs0.length c0) 32)
  have k0 : Below w.heap.size w (w.alloc (.cells #[.slice A0 cs0.length c0] 32)) := ((Below.refl w.heap.size w).alloc (by simp) _)
  clear h0 hm0
  go_enter Try.func5, Try.ntmps5
  go_wp2_with fail
  refine (szEngine_any A0 c0 cs0 1048576 _ (H0.out.below k0) hbig0 Hm0.out (by decide) (by decide)).mono ?_
  rintro e w1 ⟨r0, rfl, hr01, hr02, b1⟩
  have Box0 := hd (Box0.out.below b1)
  have S1 := hd b1.size
  have k1 := k0.trans (b1.mono k0.size)
  clear b1
  obtain ⟨box01, box02, -⟩ := Box0.out
  rcases hr02 with rfl | ⟨hr00, hsh0⟩
  · go_wp2
    go_ret
    exact ⟨rfl, k1⟩
  have Hsh0 := hd hsh0
  clear hsh0
  obtain ⟨z, ok, Hz⟩ : ∃ z ok, Hid ((runF halvesV N1 cs0).getD [] = z ∧ (runF halvesV N1 cs0).isSome = ok) := ⟨_, _, hd ⟨rfl, rfl⟩⟩
  have Hzl : Hid (z.length ≤ 1048576) := hd (runF_length Hz.out.1)
  obtain ⟨m, Hm_, hm0⟩ : ∃ m : Int, Hid (((1 + z.length : Nat) : Int) = m) ∧ ¬ m < 0 := ⟨_, hd rfl, by omega⟩
  obtain ⟨m0, Hmx0, hm00⟩ : ∃ m : Int, Hid (((1 + cs0.length : Nat) : Int) = m) ∧ ¬ m < 0 := ⟨_, hd rfl, by omega⟩
  go_wp2_with fail
  refine (toEngine_any A0 c0 _ cs0 _ (H0.out.below k1) rfl hbig0).mono ?_
  rintro e w2 ⟨B2, d2, rfl, own2, b2⟩
  clear box01 box02
  have Box0 := hd (Box0.out.below b2)
  have S2 := hd b2.size
  have k2 := k1.trans (b2.mono k1.size)
  have IT0 := hd (In.of own2)
  have T0 := hd own2
  clear own2
  clear b2
  obtain ⟨box01, box02, -⟩ := Box0.out
  go_wp2_with fail
  refine (sRunHalves_z N1 B2 d2 _ cs0 z ok _ rfl T0.out.sg Hsh0.out Hz.out).mono ?_
  rintro e w3 ⟨B3, d3, rfl, own3, b3⟩
  clear box01 box02
  have Box0 := hd (Box0.out.below b3)
  have T0 := hd (T0.out.below b3)
  have S3 := hd b3.size
  have k3 := k2.trans (b3.mono k2.size)
  have ILW := hd (In.of own3)
  have LW := hd own3
  clear own3
  clear b3
  obtain ⟨box01, box02, -⟩ := Box0.out
  clear box01 box02
  clear T0
  obtain ⟨box01, box02, -⟩ := Box0.out
  go_wp2_with fail
  refine (toEngine_any A0 c0 _ cs0 _ (H0.out.below k3) rfl hbig0).mono ?_
  rintro e w4 ⟨B4, d4, rfl, own4, b4⟩
  clear box01 box02
  have Box0 := hd (Box0.out.below b4)
  have LW := hd (LW.out.below b4)
  have S4 := hd b4.size
  have k4 := k3.trans (b4.mono k3.size)
  have ILX0 := hd (In.of own4)
  have LX0 := hd own4
  clear own4
  clear b4
  obtain ⟨box01, box02, -⟩ := Box0.out
  clear box01 box02
  have X0 := hd (Cl.new w4 (.slice B4 cs0.length d4) 36)
  have Box0 := hd (Box0.out.alloc (.cells #[.slice B4 cs0.length d4] 36))
  have LW := hd (LW.out.alloc (.cells #[.slice B4 cs0.length d4] 36))
  have LX0 := hd (LX0.out.alloc (.cells #[.slice B4 cs0.length d4] 36))
  have k4 := k4.alloc k4.size (.cells #[.slice B4 cs0.length d4] 36)
  obtain ⟨box01, box02, -⟩ := Box0.out
  obtain ⟨x01, x02, -⟩ := X0.out
  go_wp2_with fail
  refine (RunHalves_z N1 B4 d4 _ cs0 z ok _ rfl LX0.out.sg Hsh0.out Hz.out).mono ?_
  rintro e w5 ⟨B5, d5, rfl, own5, b5⟩
  clear box01 box02 x01 x02
  have Box0 := hd (Box0.out.below b5)
  have X0 := hd (X0.out.below b5)
  have LW := hd (LW.out.below b5)
  have LX0 := hd (LX0.out.below b5)
  have S5 := hd b5.size
  have k5 := k4.trans (b5.mono k4.size)
  have ILG := hd (In.of own5)
  have LG := hd own5
  clear own5
  clear b5
  obtain ⟨box01, box02, -⟩ := Box0.out
  obtain ⟨x01, x02, -⟩ := X0.out
  go_wp2_with fail
  refine (eqInts_same _ B5 B3 d5 d3 z _ rfl LG.out.sg LW.out.sg).mono ?_
  rintro e w6 ⟨rfl, b6⟩
  clear box01 box02 x01 x02
  have Box0 := hd (Box0.out.below b6)
  have X0 := hd (X0.out.below b6)
  have LW := hd (LW.out.below b6)
  have LX0 := hd (LX0.out.below b6)
  have LG := hd (LG.out.below b6)
  have S6 := hd b6.size
  have k6 := k5.trans (b6.mono k5.size)
  clear b6
  obtain ⟨box01, box02, -⟩ := Box0.out
  obtain ⟨x01, x02, -⟩ := X0.out
  go_wp2
  go_region_law (first | (go_simp; go_at_call 22; refine (toEngine_any A0 c0 _ cs0 _ (H0.out.below (k6.drew)) rfl hbig0).mono ?_; rintro e w7 ⟨B7, d7, rfl, own7, b7⟩; clear box01 box02 x01 x02; have Box0 := hd (Box0.out.drew.below b7); have X0 := hd (X0.out.drew.below b7); have LW := hd (LW.out.drew.below b7); have LX0 := hd (LX0.out.drew.below b7); have LG := hd (LG.out.drew.below b7); have S7 := hd b7.size; have k7 := k6.drew.trans (b7.mono k6.size); have ITT0 := hd (In.of own7); have TT0 := hd own7; clear own7; clear b7; obtain ⟨box01, box02, -⟩ := Box0.out; obtain ⟨x01, x02, -⟩ := X0.out) | (go_simp; go_at_call 25; refine (eqEngine_same _ B4 B7 d4 d7 cs0 _ rfl LX0.out.sg TT0.out.sg).mono ?_; rintro e w8 ⟨rfl, b8⟩; clear box01 box02 x01 x02; have Box0 := hd (Box0.out.below b8); have X0 := hd (X0.out.below b8); have LW := hd (LW.out.below b8); have LX0 := hd (LX0.out.below b8); have LG := hd (LG.out.below b8); have TT0 := hd (TT0.out.below b8); have S8 := hd b8.size; have k8 := k7.trans (b8.mono k7.size); clear b8; obtain ⟨box01, box02, -⟩ := Box0.out; obtain ⟨x01, x02, -⟩ := X0.out))
  all_goals
    clear box01 box02 x01 x02
    clear TT0
    obtain ⟨box01, box02, -⟩ := Box0.out
    obtain ⟨x01, x02, -⟩ := X0.out
    go_wp2_with fail
    refine (markE _ cs0.length B4 d4 cs0 (1) 1 _ _ rfl LX0.out (by have q1 := S1.out; have q2 := S2.out; have q3 := S3.out; have q4 := S4.out; have q5 := S5.out; have q6 := S6.out; have q7 := S7.out; have q8 := S8.out; try simp only [sz_alloc, sz_drew] at q1 q2 q3 q4 q5 q6 q7 q8 ⊢; omega) hbig0 rfl (by omega) (by omega) Hmx0.out).mono ?_
    rintro e w9 ⟨rfl, own9, b9, bs9⟩
    clear box01 box02 x01 x02
    have Box0 := hd (Box0.out.beside bs9 ILX0.out (by have q1 := S1.out; have q2 := S2.out; have q3 := S3.out; have q4 := S4.out; have q5 := S5.out; have q6 := S6.out; have q7 := S7.out; have q8 := S8.out; try simp only [sz_alloc, sz_drew] at q1 q2 q3 q4 q5 q6 q7 q8 ⊢; omega))
    have X0 := hd (X0.out.beside bs9 ILX0.out (by have q1 := S1.out; have q2 := S2.out; have q3 := S3.out; have q4 := S4.out; have q5 := S5.out; have q6 := S6.out; have q7 := S7.out; have q8 := S8.out; try simp only [sz_alloc, sz_drew] at q1 q2 q3 q4 q5 q6 q7 q8 ⊢; omega))
    have LW := hd (LW.out.beside_hi bs9 ILX0.out ILW.out (by have q1 := S1.out; have q2 := S2.out; have q3 := S3.out; have q4 := S4.out; have q5 := S5.out; have q6 := S6.out; have q7 := S7.out; have q8 := S8.out; try simp only [sz_alloc, sz_drew] at q1 q2 q3 q4 q5 q6 q7 q8 ⊢; omega))
    have LG := hd (LG.out.beside_lo bs9 ILX0.out (by have q1 := S1.out; have q2 := S2.out; have q3 := S3.out; have q4 := S4.out; have q5 := S5.out; have q6 := S6.out; have q7 := S7.out; have q8 := S8.out; try simp only [sz_alloc, sz_drew] at q1 q2 q3 q4 q5 q6 q7 q8 ⊢; omega))
    have S9 := hd b9.size
    have k9 := k8.trans (b9.mono (by have q1 := S1.out; have q2 := S2.out; have q3 := S3.out; have q4 := S4.out; have q5 := S5.out; have q6 := S6.out; have q7 := S7.out; have q8 := S8.out; try simp only [sz_alloc, sz_drew] at q1 q2 q3 q4 q5 q6 q7 q8 ⊢; omega))
    have LX0 := hd own9
    clear own9 b9 bs9
    obtain ⟨box01, box02, -⟩ := Box0.out
    obtain ⟨x01, x02, -⟩ := X0.out
    clear box01 box02 x01 x02
    clear LX0 X0
    obtain ⟨box01, box02, -⟩ := Box0.out
    go_wp2_with fail
    refine (eqInts_same _ B5 B3 d5 d3 z _ rfl LG.out.sg LW.out.sg).mono ?_
    rintro e w10 ⟨rfl, b10⟩
    clear box01 box02
    have Box0 := hd (Box0.out.below b10)
    have LW := hd (LW.out.below b10)
    have LG := hd (LG.out.below b10)
    have S10 := hd b10.size
    have k10 := k9.trans (b10.mono k9.size)
    clear b10
    obtain ⟨box01, box02, -⟩ := Box0.out
    go_wp2_with fail
    refine (markI1 _ z.length B5 d5 z _ _ rfl LG.out (by have q1 := S1.out; have q2 := S2.out; have q3 := S3.out; have q4 := S4.out; have q5 := S5.out; have q6 := S6.out; have q7 := S7.out; have q8 := S8.out; have q9 := S9.out; have q10 := S10.out; try simp only [sz_alloc, sz_drew] at q1 q2 q3 q4 q5 q6 q7 q8 q9 q10 ⊢; omega) Hzl.out Hm_.out).mono ?_
    rintro e w11 ⟨rfl, own11, b11, bs11⟩
    clear box01 box02
    have Box0 := hd (Box0.out.beside bs11 ILG.out (by have q1 := S1.out; have q2 := S2.out; have q3 := S3.out; have q4 := S4.out; have q5 := S5.out; have q6 := S6.out; have q7 := S7.out; have q8 := S8.out; have q9 := S9.out; have q10 := S10.out; try simp only [sz_alloc, sz_drew] at q1 q2 q3 q4 q5 q6 q7 q8 q9 q10 ⊢; omega))
    have LW := hd (LW.out.beside_hi bs11 ILG.out ILW.out (by have q1 := S1.out; have q2 := S2.out; have q3 := S3.out; have q4 := S4.out; have q5 := S5.out; have q6 := S6.out; have q7 := S7.out; have q8 := S8.out; have q9 := S9.out; have q10 := S10.out; try simp only [sz_alloc, sz_drew] at q1 q2 q3 q4 q5 q6 q7 q8 q9 q10 ⊢; omega))
    have S11 := hd b11.size
    have k11 := k10.trans (b11.mono (by have q1 := S1.out; have q2 := S2.out; have q3 := S3.out; have q4 := S4.out; have q5 := S5.out; have q6 := S6.out; have q7 := S7.out; have q8 := S8.out; have q9 := S9.out; have q10 := S10.out; try simp only [sz_alloc, sz_drew] at q1 q2 q3 q4 q5 q6 q7 q8 q9 q10 ⊢; omega))
    have LG := hd own11
    clear own11 b11 bs11
    obtain ⟨box01, box02, -⟩ := Box0.out
    go_wp2_with fail
    refine (heldI1 _ B5 d5 m _ LG.out.sg Hzl.out Hm_.out).mono ?_
    rintro e w12 ⟨rfl, b12⟩
    clear box01 box02
    have Box0 := hd (Box0.out.below b12)
    have LW := hd (LW.out.below b12)
    have LG := hd (LG.out.below b12)
    have S12 := hd b12.size
    have k12 := k11.trans (b12.mono k11.size)
    clear b12
    obtain ⟨box01, box02, -⟩ := Box0.out
    go_wp2_with fail
    refine (toEngine_any A0 c0 _ cs0 _ (H0.out.below k12) rfl hbig0).mono ?_
    rintro e w13 ⟨B13, d13, rfl, own13, b13⟩
    clear box01 box02
    have Box0 := hd (Box0.out.below b13)
    have LW := hd (LW.out.below b13)
    have LG := hd (LG.out.below b13)
    have S13 := hd b13.size
    have k13 := k12.trans (b13.mono k12.size)
    have IT0 := hd (In.of own13)
    have T0 := hd own13
    clear own13
    clear b13
    obtain ⟨box01, box02, -⟩ := Box0.out
    go_wp2_with fail
    refine (RunHalves_z N1 B13 d13 _ cs0 z ok _ rfl T0.out.sg Hsh0.out Hz.out).mono ?_
    rintro e w14 ⟨B14, d14, rfl, own14, b14⟩
    clear box01 box02
    have Box0 := hd (Box0.out.below b14)
    have LW := hd (LW.out.below b14)
    have LG := hd (LG.out.below b14)
    have T0 := hd (T0.out.below b14)
    have S14 := hd b14.size
    have k14 := k13.trans (b14.mono k13.size)
    have ILH := hd (In.of own14)
    have LH := hd own14
    clear own14
    clear b14
    obtain ⟨box01, box02, -⟩ := Box0.out
    go_wp2_with fail
    refine (eqInts_same _ B14 B3 d14 d3 z _ rfl LH.out.sg LW.out.sg).mono ?_
    rintro e w15 ⟨rfl, b15⟩
    clear box01 box02
    have Box0 := hd (Box0.out.below b15)
    have LW := hd (LW.out.below b15)
    have LG := hd (LG.out.below b15)
    have T0 := hd (T0.out.below b15)
    have LH := hd (LH.out.below b15)
    have S15 := hd b15.size
    have k15 := k14.trans (b15.mono k14.size)
    clear b15
    obtain ⟨box01, box02, -⟩ := Box0.out
    go_wp2_with fail
    refine (heldI1 _ B5 d5 m _ LG.out.sg Hzl.out Hm_.out).mono ?_
    rintro e w16 ⟨rfl, b16⟩
    clear box01 box02
    have Box0 := hd (Box0.out.below b16)
    have LW := hd (LW.out.below b16)
    have LG := hd (LG.out.below b16)
    have T0 := hd (T0.out.below b16)
    have LH := hd (LH.out.below b16)
    have S16 := hd b16.size
    have k16 := k15.trans (b16.mono k15.size)
    clear b16
    obtain ⟨box01, box02, -⟩ := Box0.out
    go_wp2
    go_ret
    exact ⟨rfl, k16⟩

end Go.Proofs.Ytkmblobfamhoiaa
