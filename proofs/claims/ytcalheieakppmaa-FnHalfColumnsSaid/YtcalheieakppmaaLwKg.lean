/- The walk of the law HalfColumns: the law returns true, whatever the input. -/
import Derived.Test.YtcalheieakppmaaLwJ
import Derived.Test.YtcalheieakppmaaSpeR
import Derived.Deep.RegionHeld3
import Derived.Deep.QuietTactic
import Derived.BigQuiet
namespace Go.Proofs.Ytcalheieakppmaa
open Go.RowKit
set_option maxRecDepth 4000

theorem halfColumns_sTurnFirst_r (A : Option Addr) (c n : Nat) (cs z : List ByteArray) (ok : Bool) (w : World) (hn : cs.length = n) (h : SS w A cs) (hs : Short cs) (hz : (turnF (halfV 0) cs).getD [] = z ∧ (turnF (halfV 0) cs).isSome = ok) :
    Calls Try.prog 53 #[.agg #[.slice A n c]] w fun e w' => RetEB 9 w.heap.size w z ok e w' := by
  obtain ⟨rfl, rfl⟩ := hz
  subst hn
  exact sTurnFirst_any A c cs w h hs

theorem halfColumns_sTurnSecond_r (A : Option Addr) (c n : Nat) (cs z : List ByteArray) (ok : Bool) (w : World) (hn : cs.length = n) (h : SS w A cs) (hs : Short cs) (hz : (turnF (halfV 1) cs).getD [] = z ∧ (turnF (halfV 1) cs).isSome = ok) :
    Calls Try.prog 54 #[.agg #[.slice A n c]] w fun e w' => RetEB 9 w.heap.size w z ok e w' := by
  obtain ⟨rfl, rfl⟩ := hz
  subst hn
  exact sTurnSecond_any A c cs w h hs

theorem halfColumns_TurnFirst_r (A : Option Addr) (c n : Nat) (cs z : List ByteArray) (ok : Bool) (w : World) (hn : cs.length = n) (h : SS w A cs) (hs : Short cs) (hz : (turnF (halfV 0) cs).getD [] = z ∧ (turnF (halfV 0) cs).isSome = ok) :
    Calls Try.prog 51 #[.agg #[.slice A n c]] w fun e w' => RetEB 9 w.heap.size w z ok e w' := by
  obtain ⟨rfl, rfl⟩ := hz
  subst hn
  exact TurnFirst_any A c cs w h hs

theorem halfColumns_TurnSecond_r (A : Option Addr) (c n : Nat) (cs z : List ByteArray) (ok : Bool) (w : World) (hn : cs.length = n) (h : SS w A cs) (hs : Short cs) (hz : (turnF (halfV 1) cs).getD [] = z ∧ (turnF (halfV 1) cs).isSome = ok) :
    Calls Try.prog 52 #[.agg #[.slice A n c]] w fun e w' => RetEB 9 w.heap.size w z ok e w' := by
  obtain ⟨rfl, rfl⟩ := hz
  subst hn
  exact TurnSecond_any A c cs w h hs

theorem HalfColumns_big (A : Option Addr) (c n : Nat) (w : World) (h1 : 1048576 < n) (h2 : n ≤ 9223372036854775807) :
    Calls Try.prog 12 #[.slice A n c] w fun e w' => e = .returned (.bool true) ∧ Below w.heap.size w w' := by
  have hbig' : (1048576 : Int) < n := by omega
  go_enter Try.func12, Try.ntmps12
  go_wp2
  go_ret
  exact ⟨rfl, Below.refl _ _⟩

set_option maxHeartbeats 32000000 in
theorem HalfColumns_walk (A : Option Addr) (c : Nat) (zs : List Int) (w : World) (h : SR w A (zs.map (Value.int .u8))) (hbig : zs.length ≤ 1048576) (hcap : zs.length ≤ c) (hx : ∀ x ∈ zs, 0 ≤ x ∧ x ≤ 255) :
    Calls Try.prog 12 #[.slice A zs.length c] w fun e w' => e = .returned (.bool true) ∧ Below w.heap.size w w' := by
  have H := hd h
  have Hx := hd hx
  have hbig' : ¬ (1048576 : Int) < zs.length := by omega
  clear h hx
  go_enter Try.func12, Try.ntmps12
  go_wp2_with fail
  refine (DrawTurnFirst_any A c zs _ H.out hcap Hx.out).mono ?_
  rintro e w1 ⟨Ae, ce, cs, rfl, ⟨hl8, hsz⟩, own1, k1⟩
  have Hsh := hd (hsz.short (by decide))
  have LE := hd own1
  clear hsz own1
  have E0 := hd (Cl.new w1 (.slice Ae cs.length ce) 31)
  have LE := hd (LE.out.alloc (.cells #[.slice Ae cs.length ce] 31))
  have k1 := k1.alloc k1.size (.cells #[.slice Ae cs.length ce] 31)
  obtain ⟨e01, e02, -⟩ := E0.out
  cases hv : engV cs
  · obtain ⟨z, hz0⟩ : ∃ z : List ByteArray, z = [] := ⟨_, rfl⟩
    have Hz : Hid ((turnF (halfV 0) cs).getD [] = z ∧ (turnF (halfV 0) cs).isSome = false) := hd (by rw [turnF_none hv, hz0]; exact ⟨rfl, rfl⟩)
    have Hy : Hid ((turnF (halfV 1) cs).getD [] = z ∧ (turnF (halfV 1) cs).isSome = false) := hd (by rw [turnF_none hv, hz0]; exact ⟨rfl, rfl⟩)
    clear hz0 hv
    go_wp2_with fail
    refine (halfColumns_TurnFirst_r Ae ce _ cs z false _ rfl LE.out.sg Hsh.out Hz.out).mono ?_
    rintro e w2 ⟨B2, d2, rfl, own2, b2⟩
    clear e01 e02
    have E0 := hd (E0.out.below b2)
    have LE := hd (LE.out.below b2)
    have k2 := k1.trans (b2.mono k1.size)
    have LX := hd own2
    clear own2
    clear b2
    obtain ⟨e01, e02, -⟩ := E0.out
    clear e01 e02
    have X0 := hd (Cl.new w2 (.slice B2 z.length d2) 31)
    have E0 := hd (E0.out.alloc (.cells #[.slice B2 z.length d2] 31))
    have LE := hd (LE.out.alloc (.cells #[.slice B2 z.length d2] 31))
    have LX := hd (LX.out.alloc (.cells #[.slice B2 z.length d2] 31))
    have k2 := k2.alloc k2.size (.cells #[.slice B2 z.length d2] 31)
    obtain ⟨e01, e02, -⟩ := E0.out
    obtain ⟨x01, x02, -⟩ := X0.out
    go_wp2_with fail
    refine (halfColumns_TurnSecond_r Ae ce _ cs z false _ rfl LE.out.sg Hsh.out Hy.out).mono ?_
    rintro e w3 ⟨B3, d3, rfl, own3, b3⟩
    clear e01 e02 x01 x02
    have E0 := hd (E0.out.below b3)
    have X0 := hd (X0.out.below b3)
    have LE := hd (LE.out.below b3)
    have LX := hd (LX.out.below b3)
    have k3 := k2.trans (b3.mono k2.size)
    have LY := hd own3
    clear own3
    clear b3
    obtain ⟨e01, e02, -⟩ := E0.out
    obtain ⟨x01, x02, -⟩ := X0.out
    clear e01 e02 x01 x02
    have Y0 := hd (Cl.new w3 (.slice B3 z.length d3) 31)
    have E0 := hd (E0.out.alloc (.cells #[.slice B3 z.length d3] 31))
    have X0 := hd (X0.out.alloc (.cells #[.slice B3 z.length d3] 31))
    have LE := hd (LE.out.alloc (.cells #[.slice B3 z.length d3] 31))
    have LX := hd (LX.out.alloc (.cells #[.slice B3 z.length d3] 31))
    have LY := hd (LY.out.alloc (.cells #[.slice B3 z.length d3] 31))
    have k3 := k3.alloc k3.size (.cells #[.slice B3 z.length d3] 31)
    obtain ⟨e01, e02, -⟩ := E0.out
    obtain ⟨x01, x02, -⟩ := X0.out
    obtain ⟨y01, y02, -⟩ := Y0.out
    go_wp2_with fail
    refine (halfColumns_sTurnFirst_r Ae ce _ cs z false _ rfl LE.out.sg Hsh.out Hz.out).mono ?_
    rintro e w4 ⟨B4, d4, rfl, own4, b4⟩
    clear e01 e02 x01 x02 y01 y02
    have E0 := hd (E0.out.below b4)
    have X0 := hd (X0.out.below b4)
    have Y0 := hd (Y0.out.below b4)
    have LE := hd (LE.out.below b4)
    have LX := hd (LX.out.below b4)
    have LY := hd (LY.out.below b4)
    have k4 := k3.trans (b4.mono k3.size)
    have LW := hd own4
    clear own4
    clear b4
    obtain ⟨e01, e02, -⟩ := E0.out
    obtain ⟨x01, x02, -⟩ := X0.out
    obtain ⟨y01, y02, -⟩ := Y0.out
    clear e01 e02 x01 x02 y01 y02
    have W0 := hd (Cl.new w4 (.slice B4 z.length d4) 31)
    have E0 := hd (E0.out.alloc (.cells #[.slice B4 z.length d4] 31))
    have X0 := hd (X0.out.alloc (.cells #[.slice B4 z.length d4] 31))
    have Y0 := hd (Y0.out.alloc (.cells #[.slice B4 z.length d4] 31))
    have LE := hd (LE.out.alloc (.cells #[.slice B4 z.length d4] 31))
    have LX := hd (LX.out.alloc (.cells #[.slice B4 z.length d4] 31))
    have LY := hd (LY.out.alloc (.cells #[.slice B4 z.length d4] 31))
    have LW := hd (LW.out.alloc (.cells #[.slice B4 z.length d4] 31))
    have k4 := k4.alloc k4.size (.cells #[.slice B4 z.length d4] 31)
    obtain ⟨e01, e02, -⟩ := E0.out
    obtain ⟨x01, x02, -⟩ := X0.out
    obtain ⟨y01, y02, -⟩ := Y0.out
    obtain ⟨w01, w02, -⟩ := W0.out
    go_wp2_with fail
    refine (halfColumns_sTurnSecond_r Ae ce _ cs z false _ rfl LE.out.sg Hsh.out Hy.out).mono ?_
    rintro e w5 ⟨B5, d5, rfl, own5, b5⟩
    clear e01 e02 x01 x02 y01 y02 w01 w02
    have E0 := hd (E0.out.below b5)
    have X0 := hd (X0.out.below b5)
    have Y0 := hd (Y0.out.below b5)
    have W0 := hd (W0.out.below b5)
    have LE := hd (LE.out.below b5)
    have LX := hd (LX.out.below b5)
    have LY := hd (LY.out.below b5)
    have LW := hd (LW.out.below b5)
    have k5 := k4.trans (b5.mono k4.size)
    have LO := hd own5
    clear own5
    clear b5
    obtain ⟨e01, e02, -⟩ := E0.out
    obtain ⟨x01, x02, -⟩ := X0.out
    obtain ⟨y01, y02, -⟩ := Y0.out
    obtain ⟨w01, w02, -⟩ := W0.out
    clear e01 e02 x01 x02 y01 y02 w01 w02
    have O0 := hd (Cl.new w5 (.slice B5 z.length d5) 31)
    have E0 := hd (E0.out.alloc (.cells #[.slice B5 z.length d5] 31))
    have X0 := hd (X0.out.alloc (.cells #[.slice B5 z.length d5] 31))
    have Y0 := hd (Y0.out.alloc (.cells #[.slice B5 z.length d5] 31))
    have W0 := hd (W0.out.alloc (.cells #[.slice B5 z.length d5] 31))
    have LE := hd (LE.out.alloc (.cells #[.slice B5 z.length d5] 31))
    have LX := hd (LX.out.alloc (.cells #[.slice B5 z.length d5] 31))
    have LY := hd (LY.out.alloc (.cells #[.slice B5 z.length d5] 31))
    have LW := hd (LW.out.alloc (.cells #[.slice B5 z.length d5] 31))
    have LO := hd (LO.out.alloc (.cells #[.slice B5 z.length d5] 31))
    have k5 := k5.alloc k5.size (.cells #[.slice B5 z.length d5] 31)
    obtain ⟨e01, e02, -⟩ := E0.out
    obtain ⟨x01, x02, -⟩ := X0.out
    obtain ⟨y01, y02, -⟩ := Y0.out
    obtain ⟨w01, w02, -⟩ := W0.out
    obtain ⟨o01, o02, -⟩ := O0.out
    go_wp2_with fail
    refine (deSame_same _ B2 B4 d2 d4 z _ rfl LX.out.sg LW.out.sg).mono ?_
    rintro e w6 ⟨rfl, b6⟩
    clear e01 e02 x01 x02 y01 y02 w01 w02 o01 o02
    have E0 := hd (E0.out.below b6)
    have X0 := hd (X0.out.below b6)
    have Y0 := hd (Y0.out.below b6)
    have W0 := hd (W0.out.below b6)
    have O0 := hd (O0.out.below b6)
    have LE := hd (LE.out.below b6)
    have LX := hd (LX.out.below b6)
    have LY := hd (LY.out.below b6)
    have LW := hd (LW.out.below b6)
    have LO := hd (LO.out.below b6)
    have k6 := k5.trans (b6.mono k5.size)
    clear b6
    obtain ⟨e01, e02, -⟩ := E0.out
    obtain ⟨x01, x02, -⟩ := X0.out
    obtain ⟨y01, y02, -⟩ := Y0.out
    obtain ⟨w01, w02, -⟩ := W0.out
    obtain ⟨o01, o02, -⟩ := O0.out
    go_wp2_with fail
    refine (deSame_same _ B3 B5 d3 d5 z _ rfl LY.out.sg LO.out.sg).mono ?_
    rintro e w7 ⟨rfl, b7⟩
    clear e01 e02 x01 x02 y01 y02 w01 w02 o01 o02
    have E0 := hd (E0.out.below b7)
    have X0 := hd (X0.out.below b7)
    have Y0 := hd (Y0.out.below b7)
    have W0 := hd (W0.out.below b7)
    have O0 := hd (O0.out.below b7)
    have LE := hd (LE.out.below b7)
    have LX := hd (LX.out.below b7)
    have LY := hd (LY.out.below b7)
    have LW := hd (LW.out.below b7)
    have LO := hd (LO.out.below b7)
    have k7 := k6.trans (b7.mono k6.size)
    clear b7
    obtain ⟨e01, e02, -⟩ := E0.out
    obtain ⟨x01, x02, -⟩ := X0.out
    obtain ⟨y01, y02, -⟩ := Y0.out
    obtain ⟨w01, w02, -⟩ := W0.out
    obtain ⟨o01, o02, -⟩ := O0.out
    go_wp2_with fail
    refine (deSame_same _ B2 B4 d2 d4 z _ rfl LX.out.sg LW.out.sg).mono ?_
    rintro e w8 ⟨rfl, b8⟩
    clear e01 e02 x01 x02 y01 y02 w01 w02 o01 o02
    have E0 := hd (E0.out.below b8)
    have X0 := hd (X0.out.below b8)
    have Y0 := hd (Y0.out.below b8)
    have W0 := hd (W0.out.below b8)
    have O0 := hd (O0.out.below b8)
    have LE := hd (LE.out.below b8)
    have LX := hd (LX.out.below b8)
    have LY := hd (LY.out.below b8)
    have LW := hd (LW.out.below b8)
    have LO := hd (LO.out.below b8)
    have k8 := k7.trans (b8.mono k7.size)
    clear b8
    obtain ⟨e01, e02, -⟩ := E0.out
    obtain ⟨x01, x02, -⟩ := X0.out
    obtain ⟨y01, y02, -⟩ := Y0.out
    obtain ⟨w01, w02, -⟩ := W0.out
    obtain ⟨o01, o02, -⟩ := O0.out
    go_wp2_with fail
    refine (deSame_same _ B3 B5 d3 d5 z _ rfl LY.out.sg LO.out.sg).mono ?_
    rintro e w9 ⟨rfl, b9⟩
    clear e01 e02 x01 x02 y01 y02 w01 w02 o01 o02
    have E0 := hd (E0.out.below b9)
    have X0 := hd (X0.out.below b9)
    have Y0 := hd (Y0.out.below b9)
    have W0 := hd (W0.out.below b9)
    have O0 := hd (O0.out.below b9)
    have LE := hd (LE.out.below b9)
    have LX := hd (LX.out.below b9)
    have LY := hd (LY.out.below b9)
    have LW := hd (LW.out.below b9)
    have LO := hd (LO.out.below b9)
    have k9 := k8.trans (b9.mono k8.size)
    clear b9
    obtain ⟨e01, e02, -⟩ := E0.out
    obtain ⟨x01, x02, -⟩ := X0.out
    obtain ⟨y01, y02, -⟩ := Y0.out
    obtain ⟨w01, w02, -⟩ := W0.out
    obtain ⟨o01, o02, -⟩ := O0.out
    go_wp2
    go_ret
    exact ⟨rfl, k9⟩
  · obtain ⟨z, hz0⟩ : ∃ z : List ByteArray, z = eng (hsz cs) (halfV 0 (cvs cs)) := ⟨_, rfl⟩
    obtain ⟨zy, hzy⟩ : ∃ z : List ByteArray, z = eng (hsz cs) (halfV 1 (cvs cs)) := ⟨_, rfl⟩
    have Hz : Hid ((turnF (halfV 0) cs).getD [] = z ∧ (turnF (halfV 0) cs).isSome = true) := hd (by rw [turnF_some hv, hz0]; exact ⟨rfl, rfl⟩)
    have Hy : Hid ((turnF (halfV 1) cs).getD [] = zy ∧ (turnF (halfV 1) cs).isSome = true) := hd (by rw [turnF_some hv, hzy]; exact ⟨rfl, rfl⟩)
    obtain ⟨hee, hW1, hW12, hn1, hn7⟩ := engV_vals hv
    obtain ⟨W, hW⟩ : ∃ W, W = hsz cs := ⟨_, rfl⟩
    obtain ⟨vs, hvs⟩ : ∃ vs, vs = cvs cs := ⟨_, rfl⟩
    have Hl : Hid (vs.length = cs.length) := hd (by rw [hvs]; simp [cvs])
    rw [← hW, ← hvs] at hee hz0 hzy
    rw [← hW] at hW1 hW12
    rw [← hvs] at hn1 hn7
    rw [Hl.out] at hn1 hn7
    have Hzl : Hid (z.length = cs.length) := hd (by rw [hz0, eng_length, halfV_length, Hl.out])
    have Hyl : Hid (zy.length = cs.length) := hd (by rw [hzy, eng_length, halfV_length, Hl.out])
    have He := hd hee
    have Hz0 := hd hz0
    have Hy0 := hd hzy
    clear hz0 hzy hv hee hW hvs
    go_wp2_with fail
    refine (halfColumns_TurnFirst_r Ae ce _ cs z true _ rfl LE.out.sg Hsh.out Hz.out).mono ?_
    rintro e w2 ⟨B2, d2, rfl, own2, b2⟩
    clear e01 e02
    have E0 := hd (E0.out.below b2)
    have LE := hd (LE.out.below b2)
    have k2 := k1.trans (b2.mono k1.size)
    have LX := hd own2
    clear own2
    clear b2
    obtain ⟨e01, e02, -⟩ := E0.out
    clear e01 e02
    have X0 := hd (Cl.new w2 (.slice B2 z.length d2) 31)
    have E0 := hd (E0.out.alloc (.cells #[.slice B2 z.length d2] 31))
    have LE := hd (LE.out.alloc (.cells #[.slice B2 z.length d2] 31))
    have LX := hd (LX.out.alloc (.cells #[.slice B2 z.length d2] 31))
    have k2 := k2.alloc k2.size (.cells #[.slice B2 z.length d2] 31)
    obtain ⟨e01, e02, -⟩ := E0.out
    obtain ⟨x01, x02, -⟩ := X0.out
    go_wp2_with fail
    refine (halfColumns_TurnSecond_r Ae ce _ cs zy true _ rfl LE.out.sg Hsh.out Hy.out).mono ?_
    rintro e w3 ⟨B3, d3, rfl, own3, b3⟩
    clear e01 e02 x01 x02
    have E0 := hd (E0.out.below b3)
    have X0 := hd (X0.out.below b3)
    have LE := hd (LE.out.below b3)
    have LX := hd (LX.out.below b3)
    have k3 := k2.trans (b3.mono k2.size)
    have LY := hd own3
    clear own3
    clear b3
    obtain ⟨e01, e02, -⟩ := E0.out
    obtain ⟨x01, x02, -⟩ := X0.out
    clear e01 e02 x01 x02
    have Y0 := hd (Cl.new w3 (.slice B3 zy.length d3) 31)
    have E0 := hd (E0.out.alloc (.cells #[.slice B3 zy.length d3] 31))
    have X0 := hd (X0.out.alloc (.cells #[.slice B3 zy.length d3] 31))
    have LE := hd (LE.out.alloc (.cells #[.slice B3 zy.length d3] 31))
    have LX := hd (LX.out.alloc (.cells #[.slice B3 zy.length d3] 31))
    have LY := hd (LY.out.alloc (.cells #[.slice B3 zy.length d3] 31))
    have k3 := k3.alloc k3.size (.cells #[.slice B3 zy.length d3] 31)
    obtain ⟨e01, e02, -⟩ := E0.out
    obtain ⟨x01, x02, -⟩ := X0.out
    obtain ⟨y01, y02, -⟩ := Y0.out
    go_wp2_with fail
    refine (halfColumns_sTurnFirst_r Ae ce _ cs z true _ rfl LE.out.sg Hsh.out Hz.out).mono ?_
    rintro e w4 ⟨B4, d4, rfl, own4, b4⟩
    clear e01 e02 x01 x02 y01 y02
    have E0 := hd (E0.out.below b4)
    have X0 := hd (X0.out.below b4)
    have Y0 := hd (Y0.out.below b4)
    have LE := hd (LE.out.below b4)
    have LX := hd (LX.out.below b4)
    have LY := hd (LY.out.below b4)
    have k4 := k3.trans (b4.mono k3.size)
    have LW := hd own4
    clear own4
    clear b4
    obtain ⟨e01, e02, -⟩ := E0.out
    obtain ⟨x01, x02, -⟩ := X0.out
    obtain ⟨y01, y02, -⟩ := Y0.out
    clear e01 e02 x01 x02 y01 y02
    have W0 := hd (Cl.new w4 (.slice B4 z.length d4) 31)
    have E0 := hd (E0.out.alloc (.cells #[.slice B4 z.length d4] 31))
    have X0 := hd (X0.out.alloc (.cells #[.slice B4 z.length d4] 31))
    have Y0 := hd (Y0.out.alloc (.cells #[.slice B4 z.length d4] 31))
    have LE := hd (LE.out.alloc (.cells #[.slice B4 z.length d4] 31))
    have LX := hd (LX.out.alloc (.cells #[.slice B4 z.length d4] 31))
    have LY := hd (LY.out.alloc (.cells #[.slice B4 z.length d4] 31))
    have LW := hd (LW.out.alloc (.cells #[.slice B4 z.length d4] 31))
    have k4 := k4.alloc k4.size (.cells #[.slice B4 z.length d4] 31)
    obtain ⟨e01, e02, -⟩ := E0.out
    obtain ⟨x01, x02, -⟩ := X0.out
    obtain ⟨y01, y02, -⟩ := Y0.out
    obtain ⟨w01, w02, -⟩ := W0.out
    go_wp2_with fail
    refine (halfColumns_sTurnSecond_r Ae ce _ cs zy true _ rfl LE.out.sg Hsh.out Hy.out).mono ?_
    rintro e w5 ⟨B5, d5, rfl, own5, b5⟩
    clear e01 e02 x01 x02 y01 y02 w01 w02
    have E0 := hd (E0.out.below b5)
    have X0 := hd (X0.out.below b5)
    have Y0 := hd (Y0.out.below b5)
    have W0 := hd (W0.out.below b5)
    have LE := hd (LE.out.below b5)
    have LX := hd (LX.out.below b5)
    have LY := hd (LY.out.below b5)
    have LW := hd (LW.out.below b5)
    have k5 := k4.trans (b5.mono k4.size)
    have LO := hd own5
    clear own5
    clear b5
    obtain ⟨e01, e02, -⟩ := E0.out
    obtain ⟨x01, x02, -⟩ := X0.out
    obtain ⟨y01, y02, -⟩ := Y0.out
    obtain ⟨w01, w02, -⟩ := W0.out
    clear e01 e02 x01 x02 y01 y02 w01 w02
    have O0 := hd (Cl.new w5 (.slice B5 zy.length d5) 31)
    have E0 := hd (E0.out.alloc (.cells #[.slice B5 zy.length d5] 31))
    have X0 := hd (X0.out.alloc (.cells #[.slice B5 zy.length d5] 31))
    have Y0 := hd (Y0.out.alloc (.cells #[.slice B5 zy.length d5] 31))
    have W0 := hd (W0.out.alloc (.cells #[.slice B5 zy.length d5] 31))
    have LE := hd (LE.out.alloc (.cells #[.slice B5 zy.length d5] 31))
    have LX := hd (LX.out.alloc (.cells #[.slice B5 zy.length d5] 31))
    have LY := hd (LY.out.alloc (.cells #[.slice B5 zy.length d5] 31))
    have LW := hd (LW.out.alloc (.cells #[.slice B5 zy.length d5] 31))
    have LO := hd (LO.out.alloc (.cells #[.slice B5 zy.length d5] 31))
    have k5 := k5.alloc k5.size (.cells #[.slice B5 zy.length d5] 31)
    obtain ⟨e01, e02, -⟩ := E0.out
    obtain ⟨x01, x02, -⟩ := X0.out
    obtain ⟨y01, y02, -⟩ := Y0.out
    obtain ⟨w01, w02, -⟩ := W0.out
    obtain ⟨o01, o02, -⟩ := O0.out
    go_wp2_with fail
    refine (deSame_same _ B2 B4 d2 d4 z _ rfl LX.out.sg LW.out.sg).mono ?_
    rintro e w6 ⟨rfl, b6⟩
    clear e01 e02 x01 x02 y01 y02 w01 w02 o01 o02
    have E0 := hd (E0.out.below b6)
    have X0 := hd (X0.out.below b6)
    have Y0 := hd (Y0.out.below b6)
    have W0 := hd (W0.out.below b6)
    have O0 := hd (O0.out.below b6)
    have LE := hd (LE.out.below b6)
    have LX := hd (LX.out.below b6)
    have LY := hd (LY.out.below b6)
    have LW := hd (LW.out.below b6)
    have LO := hd (LO.out.below b6)
    have k6 := k5.trans (b6.mono k5.size)
    clear b6
    obtain ⟨e01, e02, -⟩ := E0.out
    obtain ⟨x01, x02, -⟩ := X0.out
    obtain ⟨y01, y02, -⟩ := Y0.out
    obtain ⟨w01, w02, -⟩ := W0.out
    obtain ⟨o01, o02, -⟩ := O0.out
    go_wp2_with fail
    refine (deSame_same _ B3 B5 d3 d5 zy _ rfl LY.out.sg LO.out.sg).mono ?_
    rintro e w7 ⟨rfl, b7⟩
    clear e01 e02 x01 x02 y01 y02 w01 w02 o01 o02
    have E0 := hd (E0.out.below b7)
    have X0 := hd (X0.out.below b7)
    have Y0 := hd (Y0.out.below b7)
    have W0 := hd (W0.out.below b7)
    have O0 := hd (O0.out.below b7)
    have LE := hd (LE.out.below b7)
    have LX := hd (LX.out.below b7)
    have LY := hd (LY.out.below b7)
    have LW := hd (LW.out.below b7)
    have LO := hd (LO.out.below b7)
    have k7 := k6.trans (b7.mono k6.size)
    clear b7
    obtain ⟨e01, e02, -⟩ := E0.out
    obtain ⟨x01, x02, -⟩ := X0.out
    obtain ⟨y01, y02, -⟩ := Y0.out
    obtain ⟨w01, w02, -⟩ := W0.out
    obtain ⟨o01, o02, -⟩ := O0.out
    have Bk := hd k7
    obtain ⟨wk, hwk⟩ : ∃ x, x = w7 := ⟨_, rfl⟩
    clear e01 e02 x01 x02 y01 y02 w01 w02 o01 o02
    have E0v := hd E0.out
    rw [← hwk] at E0v
    have X0v := hd X0.out
    rw [← hwk] at X0v
    have Y0v := hd Y0.out
    rw [← hwk] at Y0v
    have W0v := hd W0.out
    rw [← hwk] at W0v
    have O0v := hd O0.out
    rw [← hwk] at O0v
    have LEv := hd LE.out
    rw [← hwk] at LEv
    have LXv := hd LX.out
    rw [← hwk] at LXv
    have LYv := hd LY.out
    rw [← hwk] at LYv
    have LWv := hd LW.out
    rw [← hwk] at LWv
    have LOv := hd LO.out
    rw [← hwk] at LOv
    have Bkv := hd Bk.out
    rw [← hwk] at Bkv
    obtain ⟨e01, e02, -⟩ := E0.out
    obtain ⟨x01, x02, -⟩ := X0.out
    obtain ⟨y01, y02, -⟩ := Y0.out
    obtain ⟨w01, w02, -⟩ := W0.out
    obtain ⟨o01, o02, -⟩ := O0.out
    go_wp2
    go_loopw [12] (fun i wr => ∃ k : Nat, k ≤ cs.length ∧ i = .int .i64 k ∧ Below wk.heap.size wk wr) (fun i _ => cs.length - (intOf i).toNat)
    case atStart => exact ⟨0, by omega, rfl, by rw [hwk]; exact Below.refl _ _⟩
    case round =>
      obtain ⟨k, hk, rfl, bw⟩ := hrel
      clear e01 e02 x01 x02 y01 y02 w01 w02 o01 o02
      clear hwk
      have E0 := hd (E0v.out.below bw)
      have X0 := hd (X0v.out.below bw)
      have Y0 := hd (Y0v.out.below bw)
      have LE := hd (LEv.out.below bw)
      have LX := hd (LXv.out.below bw)
      have LY := hd (LYv.out.below bw)
      have Bk := hd (Bkv.out.trans (bw.mono Bkv.out.size))
      have Bw := hd bw
      clear bw
      obtain ⟨e01, e02, -⟩ := E0.out
      obtain ⟨x01, x02, -⟩ := X0.out
      obtain ⟨y01, y02, -⟩ := Y0.out
      by_cases hlt : k < cs.length
      · have hl := Hl.out
        obtain ⟨a, Ha⟩ : ∃ a, Hid (vs[k]? = some a) := ⟨vs[k]'(by omega), hd (List.getElem?_eq_getElem _)⟩
        have Hea : Hid (cs[k]? = some (showC W a)) := hd (by have h2 := He.out; rw [h2]; exact eng_at Ha.out)
        obtain ⟨sx, bx, ox, hsx, hAx, hbx, hcx⟩ := LX.out.sg.at_ (k := k) (by rw [Hzl.out]; omega)
        obtain ⟨sy, by_, oy, hsy, hAy, hby, hcy⟩ := LY.out.sg.at_ (k := k) (by rw [Hyl.out]; omega)
        obtain ⟨s1, b1, o1, hs1, hA1, hb1, hc1⟩ := LE.out.sg.at_ (k := k) (by omega)
        obtain rfl : s1 = showC W a := Option.some.inj (hs1.symm.trans Hea.out)
        have hzl2 : k < z.length := by have := Hzl.out; omega
        have hyl2 : k < zy.length := by have := Hyl.out; omega
        have e8 : (k : Int) < z.length := by omega
        have e9 : (k : Int) < zy.length := by omega
        have e1 : (k : Int) < cs.length := by omega
        have e0 : (0 : Int) ≤ k := by omega
        have e3 : IntKind.i64.wrap ((k : Int) + 1) = (k : Int) + 1 := IntWalk.i64_in _ (by omega)
        have e4 : ((k : Int) + 1).toNat = k + 1 := by omega
        have e5 : (0 : Int) ≤ (k : Int) + 1 := by omega
        clear hs1 hl
        by_cases hnx : k + 1 < cs.length
        · have hl := Hl.out
          obtain ⟨b, Hb2⟩ : ∃ b, Hid (vs[k + 1]? = some b) := ⟨vs[k + 1]'(by omega), hd (List.getElem?_eq_getElem _)⟩
          have Heb : Hid (cs[k + 1]? = some (showC W b)) := hd (by have h2 := He.out; rw [h2]; exact eng_at Hb2.out)
          obtain ⟨s2, b2, o2, hs2, hA2, hb2, hc2⟩ := LE.out.sg.at_ (k := k + 1) hnx
          obtain rfl : s2 = showC W b := Option.some.inj (hs2.symm.trans Heb.out)
          rw [hA1] at hA2
          simp only [Option.some.injEq, Addr.mk.injEq, and_true] at hA2
          obtain ⟨rfl, rfl⟩ := hA2
          have Hsm : Hid (vs.getD k 0 + vs.getD (k + 1) 0 = a + b) := hd (by rw [getD_at Ha.out, getD_at Hb2.out])
          have e2 : (k : Int) + 1 < cs.length := by omega
          clear hs2 hl
          by_cases hp : k % 2 = 0
          · have hpi : (k : Int) % 2 = 0 := by omega
            obtain rfl : sx = showC W (a + b) := Option.some.inj (hsx.symm.trans (by rw [Hz0.out]; refine eng_at ?_; rw [halfV_at (by rw [Hl.out]; exact hlt), if_pos hp, Hsm.out]))
            obtain rfl : sy = showC W a := Option.some.inj (hsy.symm.trans (by rw [Hy0.out]; refine eng_at ?_; rw [halfV_at (by rw [Hl.out]; exact hlt), if_neg (by omega), getD_at Ha.out]))
            have E0u := hd E0.out
            have X0u := hd X0.out
            have Y0u := hd Y0.out
            have Bwu := hd Bw.out
            subst hA1 hAx hAy
            have E0 := hd E0u.out
            have X0 := hd X0u.out
            have Y0 := hd Y0u.out
            have Bw := hd Bwu.out
            clear e01 e02 x01 x02 y01 y02
            obtain ⟨e01, e02, -⟩ := E0.out
            obtain ⟨x01, x02, -⟩ := X0.out
            obtain ⟨y01, y02, -⟩ := Y0.out
            clear hsx hsy hp
            go_wp2
            go_region_held3 (fun w' => w'.cell? ⟨w1.heap.size, 0, none⟩ = some (.slice (some ⟨b1, o1, none⟩) cs.length ce) ∧ w'.cell? ⟨b1, o1 + k, none⟩ = some (.string (showC W a)) ∧ w'.cell? ⟨b1, o1 + (k + 1), none⟩ = some (.string (showC W b))) (first | exact ⟨e01, hc1, hc2⟩ | go_keep) (first | (go_simp; go_at_call 56; refine (AddColumns_c W a b wr.drew hW1 hW12).mono ?_; rintro e w9 ⟨rfl, b9⟩; have X9 := hd (X0.out.drew.below b9); have Y9 := hd (Y0.out.drew.below b9); have E9 := hd (E0.out.drew.below b9); have Bw9 := hd (Bw.out.drew.trans (b9.mono Bw.out.size)); have hc1 : w9.cell? ⟨b1, o1 + k, none⟩ = some (.string (showC W a)) := (b9.cell (p := ⟨b1, o1 + k, none⟩) hb1).trans hc1; have hc2 : w9.cell? ⟨b1, o1 + (k + 1), none⟩ = some (.string (showC W b)) := (b9.cell (p := ⟨b1, o1 + (k + 1), none⟩) hb1).trans hc2; have hcx : w9.cell? ⟨bx, ox + k, none⟩ = some (.string (showC W (a + b))) := (b9.cell (p := ⟨bx, ox + k, none⟩) hbx).trans hcx; have hcy : w9.cell? ⟨by_, oy + k, none⟩ = some (.string (showC W a)) := (b9.cell (p := ⟨by_, oy + k, none⟩) hby).trans hcy; clear e01 e02 x01 x02 y01 y02; clear b9; obtain ⟨x01, x02, -⟩ := X9.out; obtain ⟨y01, y02, -⟩ := Y9.out; obtain ⟨e01, e02, -⟩ := E9.out))
            go_wp2
            go_quiet (fail)
            go_wp2
            go_roundw
            case rel => exact ⟨k + 1, by omega, by go_num, below_drewN Bw9.out _⟩
            case measure => simp [intOf] <;> omega
          · have hpi : (k : Int) % 2 = 1 := by omega
            obtain rfl : sx = showC W a := Option.some.inj (hsx.symm.trans (by rw [Hz0.out]; refine eng_at ?_; rw [halfV_at (by rw [Hl.out]; exact hlt), if_neg hp, getD_at Ha.out]))
            obtain rfl : sy = showC W (a + b) := Option.some.inj (hsy.symm.trans (by rw [Hy0.out]; refine eng_at ?_; rw [halfV_at (by rw [Hl.out]; exact hlt), if_pos (by omega), Hsm.out]))
            have E0u := hd E0.out
            have X0u := hd X0.out
            have Y0u := hd Y0.out
            have Bwu := hd Bw.out
            subst hA1 hAx hAy
            have E0 := hd E0u.out
            have X0 := hd X0u.out
            have Y0 := hd Y0u.out
            have Bw := hd Bwu.out
            clear e01 e02 x01 x02 y01 y02
            obtain ⟨e01, e02, -⟩ := E0.out
            obtain ⟨x01, x02, -⟩ := X0.out
            obtain ⟨y01, y02, -⟩ := Y0.out
            clear hsx hsy hp
            go_wp2
            go_region_held3 (fun w' => w'.cell? ⟨w1.heap.size, 0, none⟩ = some (.slice (some ⟨b1, o1, none⟩) cs.length ce) ∧ w'.cell? ⟨b1, o1 + k, none⟩ = some (.string (showC W a)) ∧ w'.cell? ⟨b1, o1 + (k + 1), none⟩ = some (.string (showC W b))) (first | exact ⟨e01, hc1, hc2⟩ | go_keep) (first | (go_simp; go_at_call 56; refine (AddColumns_c W a b wr.drew hW1 hW12).mono ?_; rintro e w9 ⟨rfl, b9⟩; have X9 := hd (X0.out.drew.below b9); have Y9 := hd (Y0.out.drew.below b9); have E9 := hd (E0.out.drew.below b9); have Bw9 := hd (Bw.out.drew.trans (b9.mono Bw.out.size)); have hc1 : w9.cell? ⟨b1, o1 + k, none⟩ = some (.string (showC W a)) := (b9.cell (p := ⟨b1, o1 + k, none⟩) hb1).trans hc1; have hc2 : w9.cell? ⟨b1, o1 + (k + 1), none⟩ = some (.string (showC W b)) := (b9.cell (p := ⟨b1, o1 + (k + 1), none⟩) hb1).trans hc2; have hcx : w9.cell? ⟨bx, ox + k, none⟩ = some (.string (showC W a)) := (b9.cell (p := ⟨bx, ox + k, none⟩) hbx).trans hcx; have hcy : w9.cell? ⟨by_, oy + k, none⟩ = some (.string (showC W (a + b))) := (b9.cell (p := ⟨by_, oy + k, none⟩) hby).trans hcy; clear e01 e02 x01 x02 y01 y02; clear b9; obtain ⟨x01, x02, -⟩ := X9.out; obtain ⟨y01, y02, -⟩ := Y9.out; obtain ⟨e01, e02, -⟩ := E9.out))
            go_wp2
            go_quiet (fail)
            go_wp2
            go_roundw
            case rel => exact ⟨k + 1, by omega, by go_num, below_drewN Bw9.out _⟩
            case measure => simp [intOf] <;> omega
        · have Hsm : Hid (vs.getD k 0 + vs.getD (k + 1) 0 = a) := hd (by rw [getD_at Ha.out, getD_none (by have := Hl.out; omega)]; omega)
          have e2 : ¬ (k : Int) + 1 < cs.length := by omega
          by_cases hp : k % 2 = 0
          · have hpi : (k : Int) % 2 = 0 := by omega
            obtain rfl : sx = showC W a := Option.some.inj (hsx.symm.trans (by rw [Hz0.out]; refine eng_at ?_; rw [halfV_at (by rw [Hl.out]; exact hlt), if_pos hp, Hsm.out]))
            obtain rfl : sy = showC W a := Option.some.inj (hsy.symm.trans (by rw [Hy0.out]; refine eng_at ?_; rw [halfV_at (by rw [Hl.out]; exact hlt), if_neg (by omega), getD_at Ha.out]))
            have E0u := hd E0.out
            have X0u := hd X0.out
            have Y0u := hd Y0.out
            have Bwu := hd Bw.out
            subst hA1 hAx hAy
            have E0 := hd E0u.out
            have X0 := hd X0u.out
            have Y0 := hd Y0u.out
            have Bw := hd Bwu.out
            clear e01 e02 x01 x02 y01 y02
            obtain ⟨e01, e02, -⟩ := E0.out
            obtain ⟨x01, x02, -⟩ := X0.out
            obtain ⟨y01, y02, -⟩ := Y0.out
            clear hsx hsy hp
            go_wp2
            go_quiet (fail)
            go_wp2
            go_roundw
            case rel => exact ⟨k + 1, by omega, by go_num, below_drewN Bw.out _⟩
            case measure => simp [intOf] <;> omega
          · have hpi : (k : Int) % 2 = 1 := by omega
            obtain rfl : sx = showC W a := Option.some.inj (hsx.symm.trans (by rw [Hz0.out]; refine eng_at ?_; rw [halfV_at (by rw [Hl.out]; exact hlt), if_neg hp, getD_at Ha.out]))
            obtain rfl : sy = showC W a := Option.some.inj (hsy.symm.trans (by rw [Hy0.out]; refine eng_at ?_; rw [halfV_at (by rw [Hl.out]; exact hlt), if_pos (by omega), Hsm.out]))
            have E0u := hd E0.out
            have X0u := hd X0.out
            have Y0u := hd Y0.out
            have Bwu := hd Bw.out
            subst hA1 hAx hAy
            have E0 := hd E0u.out
            have X0 := hd X0u.out
            have Y0 := hd Y0u.out
            have Bw := hd Bwu.out
            clear e01 e02 x01 x02 y01 y02
            obtain ⟨e01, e02, -⟩ := E0.out
            obtain ⟨x01, x02, -⟩ := X0.out
            obtain ⟨y01, y02, -⟩ := Y0.out
            clear hsx hsy hp
            go_wp2
            go_quiet (fail)
            go_wp2
            go_roundw
            case rel => exact ⟨k + 1, by omega, by go_num, below_drewN Bw.out _⟩
            case measure => simp [intOf] <;> omega
      · have hke : k = cs.length := by omega
        go_wp2
        go_ret
        exact ⟨rfl, Bk.out⟩

end Go.Proofs.Ytcalheieakppmaa
