/- The walk of the law Halves: the law returns true, whatever the input. -/
import Derived.Test.YtcalheieakppmaaLwJ
import Derived.Test.YtcalheieakppmaaLwL
import Derived.Test.YtcalheieakppmaaSpeU
import Derived.Test.YtcalheieakppmaaSpf
import Derived.Test.YtcalheieakppmaaSpeR
import Derived.Deep.RegionHeld3
namespace Go.Proofs.Ytcalheieakppmaa
open Go.RowKit
set_option maxRecDepth 4000

theorem halves_sTurnHalves_r (A : Option Addr) (c n : Nat) (cs z : List ByteArray) (ok : Bool) (w : World) (hn : cs.length = n) (h : SS w A cs) (hs : Short cs) (hz : (turnF halvesV cs).getD [] = z ∧ (turnF halvesV cs).isSome = ok) :
    Calls Try.prog 74 #[.agg #[.slice A n c]] w fun e w' => RetEB 9 w.heap.size w z ok e w' := by
  obtain ⟨rfl, rfl⟩ := hz
  subst hn
  exact sTurnHalves_any A c cs w h hs

theorem halves_TurnFirst_r (A : Option Addr) (c n : Nat) (cs z : List ByteArray) (ok : Bool) (w : World) (hn : cs.length = n) (h : SS w A cs) (hs : Short cs) (hz : (turnF (halfV 0) cs).getD [] = z ∧ (turnF (halfV 0) cs).isSome = ok) :
    Calls Try.prog 51 #[.agg #[.slice A n c]] w fun e w' => RetEB 9 w.heap.size w z ok e w' := by
  obtain ⟨rfl, rfl⟩ := hz
  subst hn
  exact TurnFirst_any A c cs w h hs

theorem halves_TurnHalves_r (A : Option Addr) (c n : Nat) (cs z : List ByteArray) (ok : Bool) (w : World) (hn : cs.length = n) (h : SS w A cs) (hs : Short cs) (hz : (turnF halvesV cs).getD [] = z ∧ (turnF halvesV cs).isSome = ok) :
    Calls Try.prog 73 #[.agg #[.slice A n c]] w fun e w' => RetEB 9 w.heap.size w z ok e w' := by
  obtain ⟨rfl, rfl⟩ := hz
  subst hn
  exact TurnHalves_any A c cs w h hs

theorem halves_TurnSecond_r (A : Option Addr) (c n : Nat) (cs z : List ByteArray) (ok : Bool) (w : World) (hn : cs.length = n) (h : SS w A cs) (hs : Short cs) (hz : (turnF (halfV 1) cs).getD [] = z ∧ (turnF (halfV 1) cs).isSome = ok) :
    Calls Try.prog 52 #[.agg #[.slice A n c]] w fun e w' => RetEB 9 w.heap.size w z ok e w' := by
  obtain ⟨rfl, rfl⟩ := hz
  subst hn
  exact TurnSecond_any A c cs w h hs

theorem halves_TurnWhole_r (A : Option Addr) (c n : Nat) (cs z : List ByteArray) (ok : Bool) (w : World) (hn : cs.length = n) (h : SS w A cs) (hs : Short cs) (hz : (turnF (manyV · 1) cs).getD [] = z ∧ (turnF (manyV · 1) cs).isSome = ok) :
    Calls Try.prog 60 #[.agg #[.slice A n c]] w fun e w' => RetEB 9 w.heap.size w z ok e w' := by
  obtain ⟨rfl, rfl⟩ := hz
  subst hn
  exact TurnWhole_any A c cs w h hs

theorem halves_UnskewEngine_r (A : Option Addr) (c n : Nat) (cs z : List ByteArray) (ok : Bool) (w : World) (hn : cs.length = n) (h : SS w A cs) (hs : Short cs) (hz : (turnF unskV cs).getD [] = z ∧ (turnF unskV cs).isSome = ok) :
    Calls Try.prog 42 #[.agg #[.slice A n c]] w fun e w' => RetEB 9 w.heap.size w z ok e w' := by
  obtain ⟨rfl, rfl⟩ := hz
  subst hn
  exact UnskewEngine_any A c cs w h hs

theorem Halves_big (A : Option Addr) (c n : Nat) (w : World) (h1 : 1048576 < n) (h2 : n ≤ 9223372036854775807) :
    Calls Try.prog 18 #[.slice A n c] w fun e w' => e = .returned (.bool true) ∧ Below w.heap.size w w' := by
  have hbig' : (1048576 : Int) < n := by omega
  go_enter Try.func18, Try.ntmps18
  go_wp2
  go_ret
  exact ⟨rfl, Below.refl _ _⟩

set_option maxHeartbeats 8000000 in
theorem Halves_walk (A : Option Addr) (c : Nat) (zs : List Int) (w : World) (h : SR w A (zs.map (Value.int .u8))) (hbig : zs.length ≤ 1048576) (hcap : zs.length ≤ c) (hx : ∀ x ∈ zs, 0 ≤ x ∧ x ≤ 255) :
    Calls Try.prog 18 #[.slice A zs.length c] w fun e w' => e = .returned (.bool true) ∧ Below w.heap.size w w' := by
  have H := hd h
  have Hx := hd hx
  have hbig' : ¬ (1048576 : Int) < zs.length := by omega
  clear h hx
  go_enter Try.func18, Try.ntmps18
  go_wp2_with fail
  refine (DrawTurnHalves_any A c zs _ H.out hcap Hx.out).mono ?_
  rintro e w1 ⟨Ae, ce, cs, rfl, ⟨hl8, hsz⟩, own1, k1⟩
  have Hsh := hd (hsz.short (by decide))
  have LE := hd own1
  clear hsz own1
  have E0 := hd (Cl.new w1 (.slice Ae cs.length ce) 31)
  have LE := hd (LE.out.alloc (.cells #[.slice Ae cs.length ce] 31))
  have k1 := k1.alloc k1.size (.cells #[.slice Ae cs.length ce] 31)
  obtain ⟨e01, e02, -⟩ := E0.out
  cases hv : engV cs
  · obtain ⟨z, hz0⟩ : ∃ z : List ByteArray, z = [] := ⟨_, rfl⟩
    have Hz : Hid ((turnF halvesV cs).getD [] = z ∧ (turnF halvesV cs).isSome = false) := hd (by rw [turnF_none hv, hz0]; exact ⟨rfl, rfl⟩)
    clear hz0 hv
    go_wp2_with fail
    refine (halves_TurnHalves_r Ae ce _ cs z false _ rfl LE.out.sg Hsh.out Hz.out).mono ?_
    rintro e w2 ⟨B2, d2, rfl, own2, b2⟩
    clear e01 e02
    have E0 := hd (E0.out.below b2)
    have LE := hd (LE.out.below b2)
    have k2 := k1.trans (b2.mono k1.size)
    have LX := hd own2
    clear own2
    clear b2
    obtain ⟨e01, e02, -⟩ := E0.out
    clear e01 e02
    have X0 := hd (Cl.new w2 (.slice B2 z.length d2) 31)
    have E0 := hd (E0.out.alloc (.cells #[.slice B2 z.length d2] 31))
    have LE := hd (LE.out.alloc (.cells #[.slice B2 z.length d2] 31))
    have LX := hd (LX.out.alloc (.cells #[.slice B2 z.length d2] 31))
    have k2 := k2.alloc k2.size (.cells #[.slice B2 z.length d2] 31)
    obtain ⟨e01, e02, -⟩ := E0.out
    obtain ⟨x01, x02, -⟩ := X0.out
    go_wp2_with fail
    refine (halves_sTurnHalves_r Ae ce _ cs z false _ rfl LE.out.sg Hsh.out Hz.out).mono ?_
    rintro e w3 ⟨B3, d3, rfl, own3, b3⟩
    clear e01 e02 x01 x02
    have E0 := hd (E0.out.below b3)
    have X0 := hd (X0.out.below b3)
    have LE := hd (LE.out.below b3)
    have LX := hd (LX.out.below b3)
    have k3 := k2.trans (b3.mono k2.size)
    have LW := hd own3
    clear own3
    clear b3
    obtain ⟨e01, e02, -⟩ := E0.out
    obtain ⟨x01, x02, -⟩ := X0.out
    clear e01 e02 x01 x02
    have W0 := hd (Cl.new w3 (.slice B3 z.length d3) 31)
    have E0 := hd (E0.out.alloc (.cells #[.slice B3 z.length d3] 31))
    have X0 := hd (X0.out.alloc (.cells #[.slice B3 z.length d3] 31))
    have LE := hd (LE.out.alloc (.cells #[.slice B3 z.length d3] 31))
    have LX := hd (LX.out.alloc (.cells #[.slice B3 z.length d3] 31))
    have LW := hd (LW.out.alloc (.cells #[.slice B3 z.length d3] 31))
    have k3 := k3.alloc k3.size (.cells #[.slice B3 z.length d3] 31)
    obtain ⟨e01, e02, -⟩ := E0.out
    obtain ⟨x01, x02, -⟩ := X0.out
    obtain ⟨w01, w02, -⟩ := W0.out
    go_wp2_with fail
    refine (deSame_same _ B2 B3 d2 d3 z _ rfl LX.out.sg LW.out.sg).mono ?_
    rintro e w4 ⟨rfl, b4⟩
    clear e01 e02 x01 x02 w01 w02
    have E0 := hd (E0.out.below b4)
    have X0 := hd (X0.out.below b4)
    have W0 := hd (W0.out.below b4)
    have LE := hd (LE.out.below b4)
    have LX := hd (LX.out.below b4)
    have LW := hd (LW.out.below b4)
    have k4 := k3.trans (b4.mono k3.size)
    clear b4
    obtain ⟨e01, e02, -⟩ := E0.out
    obtain ⟨x01, x02, -⟩ := X0.out
    obtain ⟨w01, w02, -⟩ := W0.out
    go_wp2_with fail
    refine (deSame_same _ B2 B3 d2 d3 z _ rfl LX.out.sg LW.out.sg).mono ?_
    rintro e w5 ⟨rfl, b5⟩
    clear e01 e02 x01 x02 w01 w02
    have E0 := hd (E0.out.below b5)
    have X0 := hd (X0.out.below b5)
    have W0 := hd (W0.out.below b5)
    have LE := hd (LE.out.below b5)
    have LX := hd (LX.out.below b5)
    have LW := hd (LW.out.below b5)
    have k5 := k4.trans (b5.mono k4.size)
    clear b5
    obtain ⟨e01, e02, -⟩ := E0.out
    obtain ⟨x01, x02, -⟩ := X0.out
    obtain ⟨w01, w02, -⟩ := W0.out
    go_wp2
    go_ret
    exact ⟨rfl, k5⟩
  · obtain ⟨z, hz0⟩ : ∃ z : List ByteArray, z = eng (hsz cs) (halvesV (cvs cs)) := ⟨_, rfl⟩
    have Hz : Hid ((turnF halvesV cs).getD [] = z ∧ (turnF halvesV cs).isSome = true) := hd (by rw [turnF_some hv, hz0]; exact ⟨rfl, rfl⟩)
    obtain ⟨z1, hz1⟩ : ∃ z : List ByteArray, z = eng (hsz cs) (halfV 0 (cvs cs)) := ⟨_, rfl⟩
    have Hz1 : Hid ((turnF (halfV 0) cs).getD [] = z1 ∧ (turnF (halfV 0) cs).isSome = true) := hd (by rw [turnF_some hv, hz1]; exact ⟨rfl, rfl⟩)
    have h2 := turnF_turnF (f := halfV 0) (g := halfV 1) hv (halfV_length 0) hz1 (fun _ _ _ h => h.half 1)
    have Hz2 : Hid ((turnF (halfV 1) z1).getD [] = z ∧ (turnF (halfV 1) z1).isSome = true) := hd (by rw [h2.2, hz0]; exact ⟨rfl, rfl⟩)
    have Hs1 := hd (eng_short' h2.1)
    obtain ⟨z3, hz3⟩ : ∃ z : List ByteArray, z = eng (hsz cs) (unskV (cvs cs)) := ⟨_, rfl⟩
    have Hz3 : Hid ((turnF unskV cs).getD [] = z3 ∧ (turnF unskV cs).isSome = true) := hd (by rw [turnF_some hv, hz3]; exact ⟨rfl, rfl⟩)
    have h4 := turnF_turnF (f := unskV) (g := (manyV · 1)) hv unskV_length hz3 (fun _ _ _ h => h.many 1)
    obtain ⟨z4, hz4⟩ : ∃ z : List ByteArray, z = eng (hsz cs) (manyV (unskV (cvs cs)) 1) := ⟨_, rfl⟩
    have Hz4 : Hid ((turnF (manyV · 1) z3).getD [] = z4 ∧ (turnF (manyV · 1) z3).isSome = true) := hd (by rw [h4.2, hz4]; exact ⟨rfl, rfl⟩)
    have Hs3 := hd (eng_short' h4.1)
    have h5 := turnF_turnF (f := fun vs => manyV (unskV vs) 1) (g := skewV) hv (fun vs => by rw [manyV_length, unskV_length]) hz4 (fun _ _ _ h => h.skew)
    have Hs4 := hd (eng_short' h5.1)
    have Hz5 : Hid ((turnF skewV z4).getD [] = z) := hd (by rw [h5.2, hz0, Option.getD_some, ← halves_skew, skew_unsk]; rfl)
    clear hz0 hz1 hz3 hz4 hv h2 h4 h5
    go_wp2_with fail
    refine (halves_TurnHalves_r Ae ce _ cs z true _ rfl LE.out.sg Hsh.out Hz.out).mono ?_
    rintro e w2 ⟨B2, d2, rfl, own2, b2⟩
    clear e01 e02
    have E0 := hd (E0.out.below b2)
    have LE := hd (LE.out.below b2)
    have k2 := k1.trans (b2.mono k1.size)
    have LX := hd own2
    clear own2
    clear b2
    obtain ⟨e01, e02, -⟩ := E0.out
    clear e01 e02
    have X0 := hd (Cl.new w2 (.slice B2 z.length d2) 31)
    have E0 := hd (E0.out.alloc (.cells #[.slice B2 z.length d2] 31))
    have LE := hd (LE.out.alloc (.cells #[.slice B2 z.length d2] 31))
    have LX := hd (LX.out.alloc (.cells #[.slice B2 z.length d2] 31))
    have k2 := k2.alloc k2.size (.cells #[.slice B2 z.length d2] 31)
    obtain ⟨e01, e02, -⟩ := E0.out
    obtain ⟨x01, x02, -⟩ := X0.out
    go_wp2_with fail
    refine (halves_sTurnHalves_r Ae ce _ cs z true _ rfl LE.out.sg Hsh.out Hz.out).mono ?_
    rintro e w3 ⟨B3, d3, rfl, own3, b3⟩
    clear e01 e02 x01 x02
    have E0 := hd (E0.out.below b3)
    have X0 := hd (X0.out.below b3)
    have LE := hd (LE.out.below b3)
    have LX := hd (LX.out.below b3)
    have k3 := k2.trans (b3.mono k2.size)
    have LW := hd own3
    clear own3
    clear b3
    obtain ⟨e01, e02, -⟩ := E0.out
    obtain ⟨x01, x02, -⟩ := X0.out
    clear e01 e02 x01 x02
    have W0 := hd (Cl.new w3 (.slice B3 z.length d3) 31)
    have E0 := hd (E0.out.alloc (.cells #[.slice B3 z.length d3] 31))
    have X0 := hd (X0.out.alloc (.cells #[.slice B3 z.length d3] 31))
    have LE := hd (LE.out.alloc (.cells #[.slice B3 z.length d3] 31))
    have LX := hd (LX.out.alloc (.cells #[.slice B3 z.length d3] 31))
    have LW := hd (LW.out.alloc (.cells #[.slice B3 z.length d3] 31))
    have k3 := k3.alloc k3.size (.cells #[.slice B3 z.length d3] 31)
    obtain ⟨e01, e02, -⟩ := E0.out
    obtain ⟨x01, x02, -⟩ := X0.out
    obtain ⟨w01, w02, -⟩ := W0.out
    go_wp2_with fail
    refine (deSame_same _ B2 B3 d2 d3 z _ rfl LX.out.sg LW.out.sg).mono ?_
    rintro e w4 ⟨rfl, b4⟩
    clear e01 e02 x01 x02 w01 w02
    have E0 := hd (E0.out.below b4)
    have X0 := hd (X0.out.below b4)
    have W0 := hd (W0.out.below b4)
    have LE := hd (LE.out.below b4)
    have LX := hd (LX.out.below b4)
    have LW := hd (LW.out.below b4)
    have k4 := k3.trans (b4.mono k3.size)
    clear b4
    obtain ⟨e01, e02, -⟩ := E0.out
    obtain ⟨x01, x02, -⟩ := X0.out
    obtain ⟨w01, w02, -⟩ := W0.out
    go_wp2_with fail
    refine (halves_TurnFirst_r Ae ce _ cs z1 true _ rfl LE.out.sg Hsh.out Hz1.out).mono ?_
    rintro e w5 ⟨B5, d5, rfl, own5, b5⟩
    clear e01 e02 x01 x02 w01 w02
    have E0 := hd (E0.out.below b5)
    have X0 := hd (X0.out.below b5)
    have W0 := hd (W0.out.below b5)
    have LE := hd (LE.out.below b5)
    have LX := hd (LX.out.below b5)
    have LW := hd (LW.out.below b5)
    have k5 := k4.trans (b5.mono k4.size)
    have LA := hd own5
    clear own5
    clear b5
    obtain ⟨e01, e02, -⟩ := E0.out
    obtain ⟨x01, x02, -⟩ := X0.out
    obtain ⟨w01, w02, -⟩ := W0.out
    clear e01 e02 x01 x02 w01 w02
    have A0 := hd (Cl.new w5 (.slice B5 z1.length d5) 31)
    have E0 := hd (E0.out.alloc (.cells #[.slice B5 z1.length d5] 31))
    have X0 := hd (X0.out.alloc (.cells #[.slice B5 z1.length d5] 31))
    have W0 := hd (W0.out.alloc (.cells #[.slice B5 z1.length d5] 31))
    have LE := hd (LE.out.alloc (.cells #[.slice B5 z1.length d5] 31))
    have LX := hd (LX.out.alloc (.cells #[.slice B5 z1.length d5] 31))
    have LW := hd (LW.out.alloc (.cells #[.slice B5 z1.length d5] 31))
    have LA := hd (LA.out.alloc (.cells #[.slice B5 z1.length d5] 31))
    have k5 := k5.alloc k5.size (.cells #[.slice B5 z1.length d5] 31)
    obtain ⟨e01, e02, -⟩ := E0.out
    obtain ⟨x01, x02, -⟩ := X0.out
    obtain ⟨w01, w02, -⟩ := W0.out
    obtain ⟨a01, a02, -⟩ := A0.out
    go_wp2_with fail
    refine (halves_TurnSecond_r B5 d5 _ z1 z true _ rfl LA.out.sg Hs1.out Hz2.out).mono ?_
    rintro e w6 ⟨B6, d6, rfl, own6, b6⟩
    clear e01 e02 x01 x02 w01 w02 a01 a02
    have E0 := hd (E0.out.below b6)
    have X0 := hd (X0.out.below b6)
    have W0 := hd (W0.out.below b6)
    have A0 := hd (A0.out.below b6)
    have LE := hd (LE.out.below b6)
    have LX := hd (LX.out.below b6)
    have LW := hd (LW.out.below b6)
    have LA := hd (LA.out.below b6)
    have k6 := k5.trans (b6.mono k5.size)
    have LB := hd own6
    clear own6
    clear b6
    obtain ⟨e01, e02, -⟩ := E0.out
    obtain ⟨x01, x02, -⟩ := X0.out
    obtain ⟨w01, w02, -⟩ := W0.out
    obtain ⟨a01, a02, -⟩ := A0.out
    clear e01 e02 x01 x02 w01 w02 a01 a02
    have B0 := hd (Cl.new w6 (.slice B6 z.length d6) 31)
    have E0 := hd (E0.out.alloc (.cells #[.slice B6 z.length d6] 31))
    have X0 := hd (X0.out.alloc (.cells #[.slice B6 z.length d6] 31))
    have W0 := hd (W0.out.alloc (.cells #[.slice B6 z.length d6] 31))
    have A0 := hd (A0.out.alloc (.cells #[.slice B6 z.length d6] 31))
    have LE := hd (LE.out.alloc (.cells #[.slice B6 z.length d6] 31))
    have LX := hd (LX.out.alloc (.cells #[.slice B6 z.length d6] 31))
    have LW := hd (LW.out.alloc (.cells #[.slice B6 z.length d6] 31))
    have LA := hd (LA.out.alloc (.cells #[.slice B6 z.length d6] 31))
    have LB := hd (LB.out.alloc (.cells #[.slice B6 z.length d6] 31))
    have k6 := k6.alloc k6.size (.cells #[.slice B6 z.length d6] 31)
    obtain ⟨e01, e02, -⟩ := E0.out
    obtain ⟨x01, x02, -⟩ := X0.out
    obtain ⟨w01, w02, -⟩ := W0.out
    obtain ⟨a01, a02, -⟩ := A0.out
    obtain ⟨b01, b02, -⟩ := B0.out
    go_wp2_with fail
    refine (halves_UnskewEngine_r Ae ce _ cs z3 true _ rfl LE.out.sg Hsh.out Hz3.out).mono ?_
    rintro e w7 ⟨B7, d7, rfl, own7, b7⟩
    clear e01 e02 x01 x02 w01 w02 a01 a02 b01 b02
    have E0 := hd (E0.out.below b7)
    have X0 := hd (X0.out.below b7)
    have W0 := hd (W0.out.below b7)
    have A0 := hd (A0.out.below b7)
    have B0 := hd (B0.out.below b7)
    have LE := hd (LE.out.below b7)
    have LX := hd (LX.out.below b7)
    have LW := hd (LW.out.below b7)
    have LA := hd (LA.out.below b7)
    have LB := hd (LB.out.below b7)
    have k7 := k6.trans (b7.mono k6.size)
    have LU := hd own7
    clear own7
    clear b7
    obtain ⟨e01, e02, -⟩ := E0.out
    obtain ⟨x01, x02, -⟩ := X0.out
    obtain ⟨w01, w02, -⟩ := W0.out
    obtain ⟨a01, a02, -⟩ := A0.out
    obtain ⟨b01, b02, -⟩ := B0.out
    clear e01 e02 x01 x02 w01 w02 a01 a02 b01 b02
    have U0 := hd (Cl.new w7 (.slice B7 z3.length d7) 31)
    have E0 := hd (E0.out.alloc (.cells #[.slice B7 z3.length d7] 31))
    have X0 := hd (X0.out.alloc (.cells #[.slice B7 z3.length d7] 31))
    have W0 := hd (W0.out.alloc (.cells #[.slice B7 z3.length d7] 31))
    have A0 := hd (A0.out.alloc (.cells #[.slice B7 z3.length d7] 31))
    have B0 := hd (B0.out.alloc (.cells #[.slice B7 z3.length d7] 31))
    have LE := hd (LE.out.alloc (.cells #[.slice B7 z3.length d7] 31))
    have LX := hd (LX.out.alloc (.cells #[.slice B7 z3.length d7] 31))
    have LW := hd (LW.out.alloc (.cells #[.slice B7 z3.length d7] 31))
    have LA := hd (LA.out.alloc (.cells #[.slice B7 z3.length d7] 31))
    have LB := hd (LB.out.alloc (.cells #[.slice B7 z3.length d7] 31))
    have LU := hd (LU.out.alloc (.cells #[.slice B7 z3.length d7] 31))
    have k7 := k7.alloc k7.size (.cells #[.slice B7 z3.length d7] 31)
    obtain ⟨e01, e02, -⟩ := E0.out
    obtain ⟨x01, x02, -⟩ := X0.out
    obtain ⟨w01, w02, -⟩ := W0.out
    obtain ⟨a01, a02, -⟩ := A0.out
    obtain ⟨b01, b02, -⟩ := B0.out
    obtain ⟨u01, u02, -⟩ := U0.out
    go_wp2_with fail
    refine (halves_TurnWhole_r B7 d7 _ z3 z4 true _ rfl LU.out.sg Hs3.out Hz4.out).mono ?_
    rintro e w8 ⟨B8, d8, rfl, own8, b8⟩
    clear e01 e02 x01 x02 w01 w02 a01 a02 b01 b02 u01 u02
    have E0 := hd (E0.out.below b8)
    have X0 := hd (X0.out.below b8)
    have W0 := hd (W0.out.below b8)
    have A0 := hd (A0.out.below b8)
    have B0 := hd (B0.out.below b8)
    have U0 := hd (U0.out.below b8)
    have LE := hd (LE.out.below b8)
    have LX := hd (LX.out.below b8)
    have LW := hd (LW.out.below b8)
    have LA := hd (LA.out.below b8)
    have LB := hd (LB.out.below b8)
    have LU := hd (LU.out.below b8)
    have k8 := k7.trans (b8.mono k7.size)
    have LV := hd own8
    clear own8
    clear b8
    obtain ⟨e01, e02, -⟩ := E0.out
    obtain ⟨x01, x02, -⟩ := X0.out
    obtain ⟨w01, w02, -⟩ := W0.out
    obtain ⟨a01, a02, -⟩ := A0.out
    obtain ⟨b01, b02, -⟩ := B0.out
    obtain ⟨u01, u02, -⟩ := U0.out
    clear e01 e02 x01 x02 w01 w02 a01 a02 b01 b02 u01 u02
    have V0 := hd (Cl.new w8 (.slice B8 z4.length d8) 31)
    have E0 := hd (E0.out.alloc (.cells #[.slice B8 z4.length d8] 31))
    have X0 := hd (X0.out.alloc (.cells #[.slice B8 z4.length d8] 31))
    have W0 := hd (W0.out.alloc (.cells #[.slice B8 z4.length d8] 31))
    have A0 := hd (A0.out.alloc (.cells #[.slice B8 z4.length d8] 31))
    have B0 := hd (B0.out.alloc (.cells #[.slice B8 z4.length d8] 31))
    have U0 := hd (U0.out.alloc (.cells #[.slice B8 z4.length d8] 31))
    have LE := hd (LE.out.alloc (.cells #[.slice B8 z4.length d8] 31))
    have LX := hd (LX.out.alloc (.cells #[.slice B8 z4.length d8] 31))
    have LW := hd (LW.out.alloc (.cells #[.slice B8 z4.length d8] 31))
    have LA := hd (LA.out.alloc (.cells #[.slice B8 z4.length d8] 31))
    have LB := hd (LB.out.alloc (.cells #[.slice B8 z4.length d8] 31))
    have LU := hd (LU.out.alloc (.cells #[.slice B8 z4.length d8] 31))
    have LV := hd (LV.out.alloc (.cells #[.slice B8 z4.length d8] 31))
    have k8 := k8.alloc k8.size (.cells #[.slice B8 z4.length d8] 31)
    obtain ⟨e01, e02, -⟩ := E0.out
    obtain ⟨x01, x02, -⟩ := X0.out
    obtain ⟨w01, w02, -⟩ := W0.out
    obtain ⟨a01, a02, -⟩ := A0.out
    obtain ⟨b01, b02, -⟩ := B0.out
    obtain ⟨u01, u02, -⟩ := U0.out
    obtain ⟨v01, v02, -⟩ := V0.out
    go_wp2
    go_region_held3 (fun w' => w'.cell? ⟨w6.heap.size, 0, none⟩ = some (.slice B6 z.length d6) ∧ w'.cell? ⟨w2.heap.size, 0, none⟩ = some (.slice B2 z.length d2) ∧ w'.cell? ⟨w8.heap.size, 0, none⟩ = some (.slice B8 z4.length d8)) (first | exact ⟨b01, x01, v01⟩ | go_keep) (first | (go_simp; go_at_call 55; refine (deSame_same _ B10 B2 d10 d2 z _ rfl LS.out.sg LX.out.sg).mono ?_; rintro e w11 ⟨rfl, b11⟩; clear e01 e02 x01 x02 w01 w02 a01 a02 b01 b02 u01 u02 v01 v02; have E0 := hd (E0.out.below b11); have X0 := hd (X0.out.below b11); have W0 := hd (W0.out.below b11); have A0 := hd (A0.out.below b11); have B0 := hd (B0.out.below b11); have U0 := hd (U0.out.below b11); have V0 := hd (V0.out.below b11); have LE := hd (LE.out.below b11); have LX := hd (LX.out.below b11); have LW := hd (LW.out.below b11); have LA := hd (LA.out.below b11); have LB := hd (LB.out.below b11); have LU := hd (LU.out.below b11); have LV := hd (LV.out.below b11); have LS := hd (LS.out.below b11); have k11 := k10.trans (b11.mono k10.size); clear b11; obtain ⟨e01, e02, -⟩ := E0.out; obtain ⟨x01, x02, -⟩ := X0.out; obtain ⟨w01, w02, -⟩ := W0.out; obtain ⟨a01, a02, -⟩ := A0.out; obtain ⟨b01, b02, -⟩ := B0.out; obtain ⟨u01, u02, -⟩ := U0.out; obtain ⟨v01, v02, -⟩ := V0.out) | (go_simp; go_at_call 69; refine (deSkewed_r B8 d8 _ z4 z _ rfl LV.out.sg Hs4.out Hz5.out).mono ?_; rintro e w10 ⟨B10, d10, rfl, own10, b10⟩; clear e01 e02 x01 x02 w01 w02 a01 a02 b01 b02 u01 u02 v01 v02; have E0 := hd (E0.out.below b10); have X0 := hd (X0.out.below b10); have W0 := hd (W0.out.below b10); have A0 := hd (A0.out.below b10); have B0 := hd (B0.out.below b10); have U0 := hd (U0.out.below b10); have V0 := hd (V0.out.below b10); have LE := hd (LE.out.below b10); have LX := hd (LX.out.below b10); have LW := hd (LW.out.below b10); have LA := hd (LA.out.below b10); have LB := hd (LB.out.below b10); have LU := hd (LU.out.below b10); have LV := hd (LV.out.below b10); have k10 := k9.trans (b10.mono k9.size); have LS := hd own10; clear own10; clear b10; obtain ⟨e01, e02, -⟩ := E0.out; obtain ⟨x01, x02, -⟩ := X0.out; obtain ⟨w01, w02, -⟩ := W0.out; obtain ⟨a01, a02, -⟩ := A0.out; obtain ⟨b01, b02, -⟩ := B0.out; obtain ⟨u01, u02, -⟩ := U0.out; obtain ⟨v01, v02, -⟩ := V0.out) | (go_simp; go_at_call 55; refine (deSame_same _ B6 B2 d6 d2 z (w8.alloc (.cells #[.slice B8 z4.length d8] 31)).drew rfl LB.out.sg LX.out.sg).mono ?_; rintro e w9 ⟨rfl, b9⟩; clear e01 e02 x01 x02 w01 w02 a01 a02 b01 b02 u01 u02 v01 v02; have E0 := hd (E0.out.drew.below b9); have X0 := hd (X0.out.drew.below b9); have W0 := hd (W0.out.drew.below b9); have A0 := hd (A0.out.drew.below b9); have B0 := hd (B0.out.drew.below b9); have U0 := hd (U0.out.drew.below b9); have V0 := hd (V0.out.drew.below b9); have LE := hd (LE.out.drew.below b9); have LX := hd (LX.out.drew.below b9); have LW := hd (LW.out.drew.below b9); have LA := hd (LA.out.drew.below b9); have LB := hd (LB.out.drew.below b9); have LU := hd (LU.out.drew.below b9); have LV := hd (LV.out.drew.below b9); have k9 := k8.drew.trans (b9.mono k8.size); clear b9; obtain ⟨e01, e02, -⟩ := E0.out; obtain ⟨x01, x02, -⟩ := X0.out; obtain ⟨w01, w02, -⟩ := W0.out; obtain ⟨a01, a02, -⟩ := A0.out; obtain ⟨b01, b02, -⟩ := B0.out; obtain ⟨u01, u02, -⟩ := U0.out; obtain ⟨v01, v02, -⟩ := V0.out))
    go_wp2
    go_ret
    exact ⟨rfl, k11⟩

end Go.Proofs.Ytcalheieakppmaa
