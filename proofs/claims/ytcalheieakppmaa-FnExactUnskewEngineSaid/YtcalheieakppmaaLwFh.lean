/- The walk of the exact law of UnskewEngine: the law returns true, whatever the input. -/
import Derived.Test.YtcalheieakppmaaLwE
import Derived.Test.YtcalheieakppmaaSpf
import Derived.Deep.RegionLaw
namespace Go.Proofs.Ytcalheieakppmaa
open Go.RowKit
set_option maxRecDepth 4000

theorem sUnskewEngine_z (A : Option Addr) (c n : Nat) (cs z : List ByteArray) (ok : Bool) (w : World) (hn : cs.length = n) (h : SS w A cs) (hs : Short cs) (hz : (turnF unskV cs).getD [] = z ∧ (turnF unskV cs).isSome = ok) :
    Calls Try.prog 41 #[.agg #[.slice A n c]] w fun e w' => RetEB 9 w.heap.size w z ok e w' := by
  obtain ⟨rfl, rfl⟩ := hz
  subst hn
  exact sUnskewEngine_any A c cs w h hs
theorem UnskewEngine_z (A : Option Addr) (c n : Nat) (cs z : List ByteArray) (ok : Bool) (w : World) (hn : cs.length = n) (h : SS w A cs) (hs : Short cs) (hz : (turnF unskV cs).getD [] = z ∧ (turnF unskV cs).isSome = ok) :
    Calls Try.prog 42 #[.agg #[.slice A n c]] w fun e w' => RetEB 9 w.heap.size w z ok e w' := by
  obtain ⟨rfl, rfl⟩ := hz
  subst hn
  exact UnskewEngine_any A c cs w h hs

theorem ExactUnskewEngine_big (A : Option Addr) (c n : Nat) (w : World) (h1 : 1048576 < n) (h2 : n ≤ 9223372036854775807) :
    Calls Try.prog 9 #[.agg #[.slice A n c]] w fun e w' => e = .returned (.bool true) ∧ Below w.heap.size w w' := by
  go_enter Try.func9, Try.ntmps9
  go_wp2_with fail
  refine (szEngine_big A c n 1048576 _ h1 h2 (by decide) (by decide)).mono ?_
  rintro e w1 ⟨rfl, b1⟩
  have k1 := (((Below.refl w.heap.size w).alloc (Nat.le_refl _) (.cells #[.slice A n c] 29)).trans (b1.mono (by simp)))
  clear b1
  go_wp2
  go_ret
  exact ⟨rfl, k1⟩

set_option maxHeartbeats 8000000 in
theorem ExactUnskewEngine_walk (A : Option Addr) (c : Nat) (cs : List ByteArray) (w : World) (h : SS w A cs) (hbig : cs.length ≤ 1048576) (hm : ∀ s ∈ cs, s.size ≤ maxLen) :
    Calls Try.prog 9 #[.agg #[.slice A cs.length c]] w fun e w' => e = .returned (.bool true) ∧ Below w.heap.size w w' := by
  have H0 := hd h
  have Hm := hd hm
  have Box := hd (Cl.new w (.slice A cs.length c) 29)
  have k0 : Below w.heap.size w (w.alloc (.cells #[.slice A cs.length c] 29)) := (Below.refl w.heap.size w).alloc (Nat.le_refl _) _
  clear h hm
  go_enter Try.func9, Try.ntmps9
  go_wp2_with fail
  refine (szEngine_any A c cs 1048576 _ (H0.out.below k0) hbig Hm.out (by decide) (by decide)).mono ?_
  rintro e w1 ⟨r, rfl, hr1, hr2, b1⟩
  have S1 := hd b1.size
  have Box := hd (Box.out.below b1)
  have k1 := k0.trans (b1.mono k0.size)
  clear b1
  obtain ⟨box1, box2, -⟩ := Box.out
  rcases hr2 with rfl | ⟨hr0, hsh⟩
  · go_wp2
    go_ret
    exact ⟨rfl, k1⟩
  have Hsh := hd hsh
  clear hsh
  obtain ⟨z, ok, Hz⟩ : ∃ z ok, Hid ((turnF unskV cs).getD [] = z ∧ (turnF unskV cs).isSome = ok) := ⟨_, _, hd ⟨rfl, rfl⟩⟩
  have Hzl := hd (turnF_length unskV_length Hz.out.1)
  obtain ⟨m, Hm1, hm0⟩ : ∃ m : Int, Hid (((1 + z.length : Nat) : Int) = m) ∧ ¬ m < 0 := ⟨_, hd rfl, by omega⟩
  obtain ⟨m2, Hm2, hm02⟩ : ∃ m : Int, Hid (((1 + cs.length : Nat) : Int) = m) ∧ ¬ m < 0 := ⟨_, hd rfl, by omega⟩
  go_wp2_with fail
  refine (toEngine_any A c _ cs _ (H0.out.below k1) rfl hbig).mono ?_
  rintro e w2 ⟨A2, c2, rfl, own2, b2⟩
  clear box1 box2
  have Box := hd (Box.out.below b2)
  have S2 := hd b2.size
  have k2 := k1.trans (b2.mono k1.size)
  have IT2 := hd (In.of own2)
  have T2 := hd own2
  clear own2
  clear b2
  obtain ⟨box1, box2, -⟩ := Box.out
  go_wp2_with fail
  refine (sUnskewEngine_z A2 c2 _ cs z ok _ rfl T2.out.sg Hsh.out Hz.out).mono ?_
  rintro e w3 ⟨A3, c3, rfl, own3, b3⟩
  clear box1 box2
  have Box := hd (Box.out.below b3)
  have T2 := hd (T2.out.below b3)
  have S3 := hd b3.size
  have k3 := k2.trans (b3.mono k2.size)
  have IL3 := hd (In.of own3)
  have L3 := hd own3
  clear own3
  clear b3
  obtain ⟨box1, box2, -⟩ := Box.out
  clear box1 box2
  clear T2
  obtain ⟨box1, box2, -⟩ := Box.out
  clear box1 box2
  have W0 := hd (Cl.new w3 (.slice A3 z.length c3) 31)
  have Box := hd (Box.out.alloc (.cells #[.slice A3 z.length c3] 31))
  have L3 := hd (L3.out.alloc (.cells #[.slice A3 z.length c3] 31))
  have k3 := k3.alloc k3.size (.cells #[.slice A3 z.length c3] 31)
  obtain ⟨box1, box2, -⟩ := Box.out
  obtain ⟨w01, w02, -⟩ := W0.out
  go_wp2_with fail
  refine (toEngine_any A c _ cs _ (H0.out.below k3) rfl hbig).mono ?_
  rintro e w4 ⟨A4, c4, rfl, own4, b4⟩
  clear box1 box2 w01 w02
  have Box := hd (Box.out.below b4)
  have W0 := hd (W0.out.below b4)
  have L3 := hd (L3.out.below b4)
  have S4 := hd b4.size
  have k4 := k3.trans (b4.mono k3.size)
  have IL4 := hd (In.of own4)
  have L4 := hd own4
  clear own4
  clear b4
  obtain ⟨box1, box2, -⟩ := Box.out
  obtain ⟨w01, w02, -⟩ := W0.out
  clear box1 box2 w01 w02
  have X0 := hd (Cl.new w4 (.slice A4 cs.length c4) 31)
  have Box := hd (Box.out.alloc (.cells #[.slice A4 cs.length c4] 31))
  have W0 := hd (W0.out.alloc (.cells #[.slice A4 cs.length c4] 31))
  have L3 := hd (L3.out.alloc (.cells #[.slice A4 cs.length c4] 31))
  have L4 := hd (L4.out.alloc (.cells #[.slice A4 cs.length c4] 31))
  have k4 := k4.alloc k4.size (.cells #[.slice A4 cs.length c4] 31)
  obtain ⟨box1, box2, -⟩ := Box.out
  obtain ⟨w01, w02, -⟩ := W0.out
  obtain ⟨x01, x02, -⟩ := X0.out
  go_wp2_with fail
  refine (UnskewEngine_z A4 c4 _ cs z ok _ rfl L4.out.sg Hsh.out Hz.out).mono ?_
  rintro e w5 ⟨A5, c5, rfl, own5, b5⟩
  clear box1 box2 w01 w02 x01 x02
  have Box := hd (Box.out.below b5)
  have W0 := hd (W0.out.below b5)
  have X0 := hd (X0.out.below b5)
  have L3 := hd (L3.out.below b5)
  have L4 := hd (L4.out.below b5)
  have S5 := hd b5.size
  have k5 := k4.trans (b5.mono k4.size)
  have IL5 := hd (In.of own5)
  have L5 := hd own5
  clear own5
  clear b5
  obtain ⟨box1, box2, -⟩ := Box.out
  obtain ⟨w01, w02, -⟩ := W0.out
  obtain ⟨x01, x02, -⟩ := X0.out
  clear box1 box2 w01 w02 x01 x02
  have G0 := hd (Cl.new w5 (.slice A5 z.length c5) 31)
  have Box := hd (Box.out.alloc (.cells #[.slice A5 z.length c5] 31))
  have W0 := hd (W0.out.alloc (.cells #[.slice A5 z.length c5] 31))
  have X0 := hd (X0.out.alloc (.cells #[.slice A5 z.length c5] 31))
  have L3 := hd (L3.out.alloc (.cells #[.slice A5 z.length c5] 31))
  have L4 := hd (L4.out.alloc (.cells #[.slice A5 z.length c5] 31))
  have L5 := hd (L5.out.alloc (.cells #[.slice A5 z.length c5] 31))
  have k5 := k5.alloc k5.size (.cells #[.slice A5 z.length c5] 31)
  obtain ⟨box1, box2, -⟩ := Box.out
  obtain ⟨w01, w02, -⟩ := W0.out
  obtain ⟨x01, x02, -⟩ := X0.out
  obtain ⟨g01, g02, -⟩ := G0.out
  go_wp2_with fail
  refine (eqEngine_same _ A5 A3 c5 c3 z _ rfl L5.out.sg L3.out.sg).mono ?_
  rintro e w6 ⟨rfl, b6⟩
  clear box1 box2 w01 w02 x01 x02 g01 g02
  have Box := hd (Box.out.below b6)
  have W0 := hd (W0.out.below b6)
  have X0 := hd (X0.out.below b6)
  have G0 := hd (G0.out.below b6)
  have L3 := hd (L3.out.below b6)
  have L4 := hd (L4.out.below b6)
  have L5 := hd (L5.out.below b6)
  have S6 := hd b6.size
  have k6 := k5.trans (b6.mono k5.size)
  clear b6
  obtain ⟨box1, box2, -⟩ := Box.out
  obtain ⟨w01, w02, -⟩ := W0.out
  obtain ⟨x01, x02, -⟩ := X0.out
  obtain ⟨g01, g02, -⟩ := G0.out
  go_wp2
  go_region_law (first | (go_simp; go_at_call 26; refine (toEngine_any A c _ cs _ (H0.out.below (k6.drew)) rfl hbig).mono ?_; rintro e w7 ⟨A7, c7, rfl, own7, b7⟩; clear box1 box2 w01 w02 x01 x02 g01 g02; have Box := hd (Box.out.drew.below b7); have W0 := hd (W0.out.drew.below b7); have X0 := hd (X0.out.drew.below b7); have G0 := hd (G0.out.drew.below b7); have L3 := hd (L3.out.drew.below b7); have L4 := hd (L4.out.drew.below b7); have L5 := hd (L5.out.drew.below b7); have S7 := hd b7.size; have k7 := k6.drew.trans (b7.mono k6.size); have IT7 := hd (In.of own7); have T7 := hd own7; clear own7; clear b7; obtain ⟨box1, box2, -⟩ := Box.out; obtain ⟨w01, w02, -⟩ := W0.out; obtain ⟨x01, x02, -⟩ := X0.out; obtain ⟨g01, g02, -⟩ := G0.out) | (go_simp; go_at_call 28; refine (eqEngine_same _ A4 A7 c4 c7 cs _ rfl L4.out.sg T7.out.sg).mono ?_; rintro e w8 ⟨rfl, b8⟩; clear box1 box2 w01 w02 x01 x02 g01 g02; have Box := hd (Box.out.below b8); have W0 := hd (W0.out.below b8); have X0 := hd (X0.out.below b8); have G0 := hd (G0.out.below b8); have L3 := hd (L3.out.below b8); have L4 := hd (L4.out.below b8); have L5 := hd (L5.out.below b8); have T7 := hd (T7.out.below b8); have S8 := hd b8.size; have k8 := k7.trans (b8.mono k7.size); clear b8; obtain ⟨box1, box2, -⟩ := Box.out; obtain ⟨w01, w02, -⟩ := W0.out; obtain ⟨x01, x02, -⟩ := X0.out; obtain ⟨g01, g02, -⟩ := G0.out))
  all_goals
    clear box1 box2 w01 w02 x01 x02 g01 g02
    clear T7
    obtain ⟨box1, box2, -⟩ := Box.out
    obtain ⟨w01, w02, -⟩ := W0.out
    obtain ⟨x01, x02, -⟩ := X0.out
    obtain ⟨g01, g02, -⟩ := G0.out
    go_wp2_with fail
    refine (mark1 _ cs.length A4 c4 cs m2 _ rfl L4.out (by have q1 := S1.out; have q2 := S2.out; have q3 := S3.out; have q4 := S4.out; have q5 := S5.out; have q6 := S6.out; have q7 := S7.out; have q8 := S8.out; try simp only [sz_alloc, sz_drew] at q1 q2 q3 q4 q5 q6 q7 q8 ⊢; omega) hbig Hm2.out).mono ?_
    rintro e w9 ⟨rfl, own9, b9, bs9⟩
    clear box1 box2 w01 w02 x01 x02 g01 g02
    have Box := hd (Box.out.beside bs9 IL4.out (by have q1 := S1.out; have q2 := S2.out; have q3 := S3.out; have q4 := S4.out; have q5 := S5.out; have q6 := S6.out; have q7 := S7.out; have q8 := S8.out; try simp only [sz_alloc, sz_drew] at q1 q2 q3 q4 q5 q6 q7 q8 ⊢; omega))
    have W0 := hd (W0.out.beside bs9 IL4.out (by have q1 := S1.out; have q2 := S2.out; have q3 := S3.out; have q4 := S4.out; have q5 := S5.out; have q6 := S6.out; have q7 := S7.out; have q8 := S8.out; try simp only [sz_alloc, sz_drew] at q1 q2 q3 q4 q5 q6 q7 q8 ⊢; omega))
    have X0 := hd (X0.out.beside bs9 IL4.out (by have q1 := S1.out; have q2 := S2.out; have q3 := S3.out; have q4 := S4.out; have q5 := S5.out; have q6 := S6.out; have q7 := S7.out; have q8 := S8.out; try simp only [sz_alloc, sz_drew] at q1 q2 q3 q4 q5 q6 q7 q8 ⊢; omega))
    have G0 := hd (G0.out.beside bs9 IL4.out (by have q1 := S1.out; have q2 := S2.out; have q3 := S3.out; have q4 := S4.out; have q5 := S5.out; have q6 := S6.out; have q7 := S7.out; have q8 := S8.out; try simp only [sz_alloc, sz_drew] at q1 q2 q3 q4 q5 q6 q7 q8 ⊢; omega))
    have L3 := hd (L3.out.beside_hi bs9 IL4.out IL3.out (by have q1 := S1.out; have q2 := S2.out; have q3 := S3.out; have q4 := S4.out; have q5 := S5.out; have q6 := S6.out; have q7 := S7.out; have q8 := S8.out; try simp only [sz_alloc, sz_drew] at q1 q2 q3 q4 q5 q6 q7 q8 ⊢; omega))
    have L5 := hd (L5.out.beside_lo bs9 IL4.out (by have q1 := S1.out; have q2 := S2.out; have q3 := S3.out; have q4 := S4.out; have q5 := S5.out; have q6 := S6.out; have q7 := S7.out; have q8 := S8.out; try simp only [sz_alloc, sz_drew] at q1 q2 q3 q4 q5 q6 q7 q8 ⊢; omega))
    have S9 := hd b9.size
    have k9 := k8.trans (b9.mono (by have q1 := S1.out; have q2 := S2.out; have q3 := S3.out; have q4 := S4.out; have q5 := S5.out; have q6 := S6.out; have q7 := S7.out; have q8 := S8.out; try simp only [sz_alloc, sz_drew] at q1 q2 q3 q4 q5 q6 q7 q8 ⊢; omega))
    have L4 := hd own9
    clear own9 b9 bs9
    obtain ⟨box1, box2, -⟩ := Box.out
    obtain ⟨w01, w02, -⟩ := W0.out
    obtain ⟨x01, x02, -⟩ := X0.out
    obtain ⟨g01, g02, -⟩ := G0.out
    clear box1 box2 w01 w02 x01 x02 g01 g02
    clear L4 X0
    obtain ⟨box1, box2, -⟩ := Box.out
    obtain ⟨w01, w02, -⟩ := W0.out
    obtain ⟨g01, g02, -⟩ := G0.out
    go_wp2_with fail
    refine (eqEngine_same _ A5 A3 c5 c3 z _ rfl L5.out.sg L3.out.sg).mono ?_
    rintro e w10 ⟨rfl, b10⟩
    clear box1 box2 w01 w02 g01 g02
    have Box := hd (Box.out.below b10)
    have W0 := hd (W0.out.below b10)
    have G0 := hd (G0.out.below b10)
    have L3 := hd (L3.out.below b10)
    have L5 := hd (L5.out.below b10)
    have S10 := hd b10.size
    have k10 := k9.trans (b10.mono k9.size)
    clear b10
    obtain ⟨box1, box2, -⟩ := Box.out
    obtain ⟨w01, w02, -⟩ := W0.out
    obtain ⟨g01, g02, -⟩ := G0.out
    go_wp2_with fail
    refine (mark1 _ z.length A5 c5 z m _ rfl L5.out (by have q1 := S1.out; have q2 := S2.out; have q3 := S3.out; have q4 := S4.out; have q5 := S5.out; have q6 := S6.out; have q7 := S7.out; have q8 := S8.out; have q9 := S9.out; have q10 := S10.out; try simp only [sz_alloc, sz_drew] at q1 q2 q3 q4 q5 q6 q7 q8 q9 q10 ⊢; omega) Hzl.out Hm1.out).mono ?_
    rintro e w11 ⟨rfl, own11, b11, bs11⟩
    clear box1 box2 w01 w02 g01 g02
    have Box := hd (Box.out.beside bs11 IL5.out (by have q1 := S1.out; have q2 := S2.out; have q3 := S3.out; have q4 := S4.out; have q5 := S5.out; have q6 := S6.out; have q7 := S7.out; have q8 := S8.out; have q9 := S9.out; have q10 := S10.out; try simp only [sz_alloc, sz_drew] at q1 q2 q3 q4 q5 q6 q7 q8 q9 q10 ⊢; omega))
    have W0 := hd (W0.out.beside bs11 IL5.out (by have q1 := S1.out; have q2 := S2.out; have q3 := S3.out; have q4 := S4.out; have q5 := S5.out; have q6 := S6.out; have q7 := S7.out; have q8 := S8.out; have q9 := S9.out; have q10 := S10.out; try simp only [sz_alloc, sz_drew] at q1 q2 q3 q4 q5 q6 q7 q8 q9 q10 ⊢; omega))
    have G0 := hd (G0.out.beside bs11 IL5.out (by have q1 := S1.out; have q2 := S2.out; have q3 := S3.out; have q4 := S4.out; have q5 := S5.out; have q6 := S6.out; have q7 := S7.out; have q8 := S8.out; have q9 := S9.out; have q10 := S10.out; try simp only [sz_alloc, sz_drew] at q1 q2 q3 q4 q5 q6 q7 q8 q9 q10 ⊢; omega))
    have L3 := hd (L3.out.beside_hi bs11 IL5.out IL3.out (by have q1 := S1.out; have q2 := S2.out; have q3 := S3.out; have q4 := S4.out; have q5 := S5.out; have q6 := S6.out; have q7 := S7.out; have q8 := S8.out; have q9 := S9.out; have q10 := S10.out; try simp only [sz_alloc, sz_drew] at q1 q2 q3 q4 q5 q6 q7 q8 q9 q10 ⊢; omega))
    have S11 := hd b11.size
    have k11 := k10.trans (b11.mono (by have q1 := S1.out; have q2 := S2.out; have q3 := S3.out; have q4 := S4.out; have q5 := S5.out; have q6 := S6.out; have q7 := S7.out; have q8 := S8.out; have q9 := S9.out; have q10 := S10.out; try simp only [sz_alloc, sz_drew] at q1 q2 q3 q4 q5 q6 q7 q8 q9 q10 ⊢; omega))
    have L5 := hd own11
    clear own11 b11 bs11
    obtain ⟨box1, box2, -⟩ := Box.out
    obtain ⟨w01, w02, -⟩ := W0.out
    obtain ⟨g01, g02, -⟩ := G0.out
    go_wp2_with fail
    refine (held1 _ A5 c5 m _ L5.out.sg Hzl.out Hm1.out).mono ?_
    rintro e w12 ⟨rfl, b12⟩
    clear box1 box2 w01 w02 g01 g02
    have Box := hd (Box.out.below b12)
    have W0 := hd (W0.out.below b12)
    have G0 := hd (G0.out.below b12)
    have L3 := hd (L3.out.below b12)
    have L5 := hd (L5.out.below b12)
    have S12 := hd b12.size
    have k12 := k11.trans (b12.mono k11.size)
    clear b12
    obtain ⟨box1, box2, -⟩ := Box.out
    obtain ⟨w01, w02, -⟩ := W0.out
    obtain ⟨g01, g02, -⟩ := G0.out
    go_wp2_with fail
    refine (toEngine_any A c _ cs _ (H0.out.below k12) rfl hbig).mono ?_
    rintro e w13 ⟨A13, c13, rfl, own13, b13⟩
    clear box1 box2 w01 w02 g01 g02
    have Box := hd (Box.out.below b13)
    have W0 := hd (W0.out.below b13)
    have G0 := hd (G0.out.below b13)
    have L3 := hd (L3.out.below b13)
    have L5 := hd (L5.out.below b13)
    have S13 := hd b13.size
    have k13 := k12.trans (b13.mono k12.size)
    have IT13 := hd (In.of own13)
    have T13 := hd own13
    clear own13
    clear b13
    obtain ⟨box1, box2, -⟩ := Box.out
    obtain ⟨w01, w02, -⟩ := W0.out
    obtain ⟨g01, g02, -⟩ := G0.out
    go_wp2_with fail
    refine (UnskewEngine_z A13 c13 _ cs z ok _ rfl T13.out.sg Hsh.out Hz.out).mono ?_
    rintro e w14 ⟨A14, c14, rfl, own14, b14⟩
    clear box1 box2 w01 w02 g01 g02
    have Box := hd (Box.out.below b14)
    have W0 := hd (W0.out.below b14)
    have G0 := hd (G0.out.below b14)
    have L3 := hd (L3.out.below b14)
    have L5 := hd (L5.out.below b14)
    have T13 := hd (T13.out.below b14)
    have S14 := hd b14.size
    have k14 := k13.trans (b14.mono k13.size)
    have IL14 := hd (In.of own14)
    have L14 := hd own14
    clear own14
    clear b14
    obtain ⟨box1, box2, -⟩ := Box.out
    obtain ⟨w01, w02, -⟩ := W0.out
    obtain ⟨g01, g02, -⟩ := G0.out
    clear box1 box2 w01 w02 g01 g02
    have Q0 := hd (Cl.new w14 (.slice A14 z.length c14) 31)
    have Box := hd (Box.out.alloc (.cells #[.slice A14 z.length c14] 31))
    have W0 := hd (W0.out.alloc (.cells #[.slice A14 z.length c14] 31))
    have G0 := hd (G0.out.alloc (.cells #[.slice A14 z.length c14] 31))
    have L3 := hd (L3.out.alloc (.cells #[.slice A14 z.length c14] 31))
    have L5 := hd (L5.out.alloc (.cells #[.slice A14 z.length c14] 31))
    have T13 := hd (T13.out.alloc (.cells #[.slice A14 z.length c14] 31))
    have L14 := hd (L14.out.alloc (.cells #[.slice A14 z.length c14] 31))
    have k14 := k14.alloc k14.size (.cells #[.slice A14 z.length c14] 31)
    obtain ⟨box1, box2, -⟩ := Box.out
    obtain ⟨w01, w02, -⟩ := W0.out
    obtain ⟨g01, g02, -⟩ := G0.out
    obtain ⟨q01, q02, -⟩ := Q0.out
    go_wp2_with fail
    refine (eqEngine_same _ A14 A3 c14 c3 z _ rfl L14.out.sg L3.out.sg).mono ?_
    rintro e w15 ⟨rfl, b15⟩
    clear box1 box2 w01 w02 g01 g02 q01 q02
    have Box := hd (Box.out.below b15)
    have W0 := hd (W0.out.below b15)
    have G0 := hd (G0.out.below b15)
    have Q0 := hd (Q0.out.below b15)
    have L3 := hd (L3.out.below b15)
    have L5 := hd (L5.out.below b15)
    have T13 := hd (T13.out.below b15)
    have L14 := hd (L14.out.below b15)
    have S15 := hd b15.size
    have k15 := k14.trans (b15.mono k14.size)
    clear b15
    obtain ⟨box1, box2, -⟩ := Box.out
    obtain ⟨w01, w02, -⟩ := W0.out
    obtain ⟨g01, g02, -⟩ := G0.out
    obtain ⟨q01, q02, -⟩ := Q0.out
    go_wp2_with fail
    refine (held1 _ A5 c5 m _ L5.out.sg Hzl.out Hm1.out).mono ?_
    rintro e w16 ⟨rfl, b16⟩
    clear box1 box2 w01 w02 g01 g02 q01 q02
    have Box := hd (Box.out.below b16)
    have W0 := hd (W0.out.below b16)
    have G0 := hd (G0.out.below b16)
    have Q0 := hd (Q0.out.below b16)
    have L3 := hd (L3.out.below b16)
    have L5 := hd (L5.out.below b16)
    have T13 := hd (T13.out.below b16)
    have L14 := hd (L14.out.below b16)
    have S16 := hd b16.size
    have k16 := k15.trans (b16.mono k15.size)
    clear b16
    obtain ⟨box1, box2, -⟩ := Box.out
    obtain ⟨w01, w02, -⟩ := W0.out
    obtain ⟨g01, g02, -⟩ := G0.out
    obtain ⟨q01, q02, -⟩ := Q0.out
    go_wp2
    go_ret
    exact ⟨rfl, k16⟩

end Go.Proofs.Ytcalheieakppmaa
