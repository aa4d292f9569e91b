/- The walk of the law UnskewForth: the law returns true, whatever the input. -/
import Derived.Test.YtcalheieakppmaaLwJ
import Derived.Test.YtcalheieakppmaaSpeY
import Derived.Test.YtcalheieakppmaaSpf
import Derived.Deep.RegionHeld3
namespace Go.Proofs.Ytcalheieakppmaa
open Go.RowKit
set_option maxRecDepth 4000

theorem unskewForth_sUnskewEngine_r (A : Option Addr) (c n : Nat) (cs z : List ByteArray) (ok : Bool) (w : World) (hn : cs.length = n) (h : SS w A cs) (hs : Short cs) (hz : (turnF unskV cs).getD [] = z ∧ (turnF unskV cs).isSome = ok) :
    Calls Try.prog 41 #[.agg #[.slice A n c]] w fun e w' => RetEB 9 w.heap.size w z ok e w' := by
  obtain ⟨rfl, rfl⟩ := hz
  subst hn
  exact sUnskewEngine_any A c cs w h hs

theorem unskewForth_SkewEngine_r (A : Option Addr) (c n : Nat) (cs z : List ByteArray) (ok : Bool) (w : World) (hn : cs.length = n) (h : SS w A cs) (hs : Short cs) (hz : (turnF skewV cs).getD [] = z ∧ (turnF skewV cs).isSome = ok) :
    Calls Try.prog 71 #[.agg #[.slice A n c]] w fun e w' => RetEB 9 w.heap.size w z ok e w' := by
  obtain ⟨rfl, rfl⟩ := hz
  subst hn
  exact SkewEngine_any A c cs w h hs

theorem unskewForth_UnskewEngine_r (A : Option Addr) (c n : Nat) (cs z : List ByteArray) (ok : Bool) (w : World) (hn : cs.length = n) (h : SS w A cs) (hs : Short cs) (hz : (turnF unskV cs).getD [] = z ∧ (turnF unskV cs).isSome = ok) :
    Calls Try.prog 42 #[.agg #[.slice A n c]] w fun e w' => RetEB 9 w.heap.size w z ok e w' := by
  obtain ⟨rfl, rfl⟩ := hz
  subst hn
  exact UnskewEngine_any A c cs w h hs

theorem UnskewForth_big (A : Option Addr) (c n : Nat) (w : World) (h1 : 1048576 < n) (h2 : n ≤ 9223372036854775807) :
    Calls Try.prog 17 #[.slice A n c] w fun e w' => e = .returned (.bool true) ∧ Below w.heap.size w w' := by
  have hbig' : (1048576 : Int) < n := by omega
  go_enter Try.func17, Try.ntmps17
  go_wp2
  go_ret
  exact ⟨rfl, Below.refl _ _⟩

set_option maxHeartbeats 4000000 in
theorem UnskewForth_walk (A : Option Addr) (c : Nat) (zs : List Int) (w : World) (h : SR w A (zs.map (Value.int .u8))) (hbig : zs.length ≤ 1048576) (hcap : zs.length ≤ c) (hx : ∀ x ∈ zs, 0 ≤ x ∧ x ≤ 255) :
    Calls Try.prog 17 #[.slice A zs.length c] w fun e w' => e = .returned (.bool true) ∧ Below w.heap.size w w' := by
  have H := hd h
  have Hx := hd hx
  have hbig' : ¬ (1048576 : Int) < zs.length := by omega
  clear h hx
  go_enter Try.func17, Try.ntmps17
  go_wp2_with fail
  refine (DrawUnskewEngine_any A c zs _ H.out hcap Hx.out).mono ?_
  rintro e w1 ⟨Ae, ce, cs, rfl, ⟨hl8, hsz⟩, own1, k1⟩
  have Hsh := hd (hsz.short (by decide))
  have LE := hd own1
  clear hsz own1
  have E0 := hd (Cl.new w1 (.slice Ae cs.length ce) 31)
  have LE := hd (LE.out.alloc (.cells #[.slice Ae cs.length ce] 31))
  have k1 := k1.alloc k1.size (.cells #[.slice Ae cs.length ce] 31)
  obtain ⟨e01, e02, -⟩ := E0.out
  cases hv : engV cs
  · obtain ⟨z, hz0⟩ : ∃ z : List ByteArray, z = [] := ⟨_, rfl⟩
    have Hz : Hid ((turnF unskV cs).getD [] = z ∧ (turnF unskV cs).isSome = false) := hd (by rw [turnF_none hv, hz0]; exact ⟨rfl, rfl⟩)
    clear hz0 hv
    go_wp2_with fail
    refine (unskewForth_UnskewEngine_r Ae ce _ cs z false _ rfl LE.out.sg Hsh.out Hz.out).mono ?_
    rintro e w2 ⟨B2, d2, rfl, own2, b2⟩
    clear e01 e02
    have E0 := hd (E0.out.below b2)
    have LE := hd (LE.out.below b2)
    have k2 := k1.trans (b2.mono k1.size)
    have LX := hd own2
    clear own2
    clear b2
    obtain ⟨e01, e02, -⟩ := E0.out
    clear e01 e02
    have X0 := hd (Cl.new w2 (.slice B2 z.length d2) 31)
    have E0 := hd (E0.out.alloc (.cells #[.slice B2 z.length d2] 31))
    have LE := hd (LE.out.alloc (.cells #[.slice B2 z.length d2] 31))
    have LX := hd (LX.out.alloc (.cells #[.slice B2 z.length d2] 31))
    have k2 := k2.alloc k2.size (.cells #[.slice B2 z.length d2] 31)
    obtain ⟨e01, e02, -⟩ := E0.out
    obtain ⟨x01, x02, -⟩ := X0.out
    go_wp2_with fail
    refine (unskewForth_sUnskewEngine_r Ae ce _ cs z false _ rfl LE.out.sg Hsh.out Hz.out).mono ?_
    rintro e w3 ⟨B3, d3, rfl, own3, b3⟩
    clear e01 e02 x01 x02
    have E0 := hd (E0.out.below b3)
    have X0 := hd (X0.out.below b3)
    have LE := hd (LE.out.below b3)
    have LX := hd (LX.out.below b3)
    have k3 := k2.trans (b3.mono k2.size)
    have LW := hd own3
    clear own3
    clear b3
    obtain ⟨e01, e02, -⟩ := E0.out
    obtain ⟨x01, x02, -⟩ := X0.out
    clear e01 e02 x01 x02
    have W0 := hd (Cl.new w3 (.slice B3 z.length d3) 31)
    have E0 := hd (E0.out.alloc (.cells #[.slice B3 z.length d3] 31))
    have X0 := hd (X0.out.alloc (.cells #[.slice B3 z.length d3] 31))
    have LE := hd (LE.out.alloc (.cells #[.slice B3 z.length d3] 31))
    have LX := hd (LX.out.alloc (.cells #[.slice B3 z.length d3] 31))
    have LW := hd (LW.out.alloc (.cells #[.slice B3 z.length d3] 31))
    have k3 := k3.alloc k3.size (.cells #[.slice B3 z.length d3] 31)
    obtain ⟨e01, e02, -⟩ := E0.out
    obtain ⟨x01, x02, -⟩ := X0.out
    obtain ⟨w01, w02, -⟩ := W0.out
    go_wp2_with fail
    refine (deSame_same _ B2 B3 d2 d3 z _ rfl LX.out.sg LW.out.sg).mono ?_
    rintro e w4 ⟨rfl, b4⟩
    clear e01 e02 x01 x02 w01 w02
    have E0 := hd (E0.out.below b4)
    have X0 := hd (X0.out.below b4)
    have W0 := hd (W0.out.below b4)
    have LE := hd (LE.out.below b4)
    have LX := hd (LX.out.below b4)
    have LW := hd (LW.out.below b4)
    have k4 := k3.trans (b4.mono k3.size)
    clear b4
    obtain ⟨e01, e02, -⟩ := E0.out
    obtain ⟨x01, x02, -⟩ := X0.out
    obtain ⟨w01, w02, -⟩ := W0.out
    go_wp2_with fail
    refine (deSame_same _ B2 B3 d2 d3 z _ rfl LX.out.sg LW.out.sg).mono ?_
    rintro e w5 ⟨rfl, b5⟩
    clear e01 e02 x01 x02 w01 w02
    have E0 := hd (E0.out.below b5)
    have X0 := hd (X0.out.below b5)
    have W0 := hd (W0.out.below b5)
    have LE := hd (LE.out.below b5)
    have LX := hd (LX.out.below b5)
    have LW := hd (LW.out.below b5)
    have k5 := k4.trans (b5.mono k4.size)
    clear b5
    obtain ⟨e01, e02, -⟩ := E0.out
    obtain ⟨x01, x02, -⟩ := X0.out
    obtain ⟨w01, w02, -⟩ := W0.out
    go_wp2
    go_ret
    exact ⟨rfl, k5⟩
  · obtain ⟨z, hz0⟩ : ∃ z : List ByteArray, z = eng (hsz cs) (unskV (cvs cs)) := ⟨_, rfl⟩
    have Hz : Hid ((turnF unskV cs).getD [] = z ∧ (turnF unskV cs).isSome = true) := hd (by rw [turnF_some hv, hz0]; exact ⟨rfl, rfl⟩)
    have hb := turnF_turnF (f := unskV) (g := skewV) hv unskV_length hz0 (fun _ _ _ h => h.skew)
    have Hb : Hid ((turnF skewV z).getD [] = cs ∧ (turnF skewV z).isSome = true) := hd (by rw [hb.2]; refine ⟨?_, rfl⟩; rw [Option.getD_some]; rw [skew_unsk]; exact (engV_vals hv).1.symm)
    have Hvz := hd hb.1
    have Hshz := hd (eng_short' hb.1)
    clear hz0 hv hb
    go_wp2_with fail
    refine (unskewForth_UnskewEngine_r Ae ce _ cs z true _ rfl LE.out.sg Hsh.out Hz.out).mono ?_
    rintro e w2 ⟨B2, d2, rfl, own2, b2⟩
    clear e01 e02
    have E0 := hd (E0.out.below b2)
    have LE := hd (LE.out.below b2)
    have k2 := k1.trans (b2.mono k1.size)
    have LX := hd own2
    clear own2
    clear b2
    obtain ⟨e01, e02, -⟩ := E0.out
    clear e01 e02
    have X0 := hd (Cl.new w2 (.slice B2 z.length d2) 31)
    have E0 := hd (E0.out.alloc (.cells #[.slice B2 z.length d2] 31))
    have LE := hd (LE.out.alloc (.cells #[.slice B2 z.length d2] 31))
    have LX := hd (LX.out.alloc (.cells #[.slice B2 z.length d2] 31))
    have k2 := k2.alloc k2.size (.cells #[.slice B2 z.length d2] 31)
    obtain ⟨e01, e02, -⟩ := E0.out
    obtain ⟨x01, x02, -⟩ := X0.out
    go_wp2_with fail
    refine (unskewForth_sUnskewEngine_r Ae ce _ cs z true _ rfl LE.out.sg Hsh.out Hz.out).mono ?_
    rintro e w3 ⟨B3, d3, rfl, own3, b3⟩
    clear e01 e02 x01 x02
    have E0 := hd (E0.out.below b3)
    have X0 := hd (X0.out.below b3)
    have LE := hd (LE.out.below b3)
    have LX := hd (LX.out.below b3)
    have k3 := k2.trans (b3.mono k2.size)
    have LW := hd own3
    clear own3
    clear b3
    obtain ⟨e01, e02, -⟩ := E0.out
    obtain ⟨x01, x02, -⟩ := X0.out
    clear e01 e02 x01 x02
    have W0 := hd (Cl.new w3 (.slice B3 z.length d3) 31)
    have E0 := hd (E0.out.alloc (.cells #[.slice B3 z.length d3] 31))
    have X0 := hd (X0.out.alloc (.cells #[.slice B3 z.length d3] 31))
    have LE := hd (LE.out.alloc (.cells #[.slice B3 z.length d3] 31))
    have LX := hd (LX.out.alloc (.cells #[.slice B3 z.length d3] 31))
    have LW := hd (LW.out.alloc (.cells #[.slice B3 z.length d3] 31))
    have k3 := k3.alloc k3.size (.cells #[.slice B3 z.length d3] 31)
    obtain ⟨e01, e02, -⟩ := E0.out
    obtain ⟨x01, x02, -⟩ := X0.out
    obtain ⟨w01, w02, -⟩ := W0.out
    go_wp2_with fail
    refine (deSame_same _ B2 B3 d2 d3 z _ rfl LX.out.sg LW.out.sg).mono ?_
    rintro e w4 ⟨rfl, b4⟩
    clear e01 e02 x01 x02 w01 w02
    have E0 := hd (E0.out.below b4)
    have X0 := hd (X0.out.below b4)
    have W0 := hd (W0.out.below b4)
    have LE := hd (LE.out.below b4)
    have LX := hd (LX.out.below b4)
    have LW := hd (LW.out.below b4)
    have k4 := k3.trans (b4.mono k3.size)
    clear b4
    obtain ⟨e01, e02, -⟩ := E0.out
    obtain ⟨x01, x02, -⟩ := X0.out
    obtain ⟨w01, w02, -⟩ := W0.out
    go_wp2_with fail
    refine (unskewForth_SkewEngine_r B2 d2 _ z cs true _ rfl LX.out.sg Hshz.out Hb.out).mono ?_
    rintro e w5 ⟨B5, d5, rfl, own5, b5⟩
    clear e01 e02 x01 x02 w01 w02
    have E0 := hd (E0.out.below b5)
    have X0 := hd (X0.out.below b5)
    have W0 := hd (W0.out.below b5)
    have LE := hd (LE.out.below b5)
    have LX := hd (LX.out.below b5)
    have LW := hd (LW.out.below b5)
    have k5 := k4.trans (b5.mono k4.size)
    have LY := hd own5
    clear own5
    clear b5
    obtain ⟨e01, e02, -⟩ := E0.out
    obtain ⟨x01, x02, -⟩ := X0.out
    obtain ⟨w01, w02, -⟩ := W0.out
    clear e01 e02 x01 x02 w01 w02
    have Y0 := hd (Cl.new w5 (.slice B5 cs.length d5) 31)
    have E0 := hd (E0.out.alloc (.cells #[.slice B5 cs.length d5] 31))
    have X0 := hd (X0.out.alloc (.cells #[.slice B5 cs.length d5] 31))
    have W0 := hd (W0.out.alloc (.cells #[.slice B5 cs.length d5] 31))
    have LE := hd (LE.out.alloc (.cells #[.slice B5 cs.length d5] 31))
    have LX := hd (LX.out.alloc (.cells #[.slice B5 cs.length d5] 31))
    have LW := hd (LW.out.alloc (.cells #[.slice B5 cs.length d5] 31))
    have LY := hd (LY.out.alloc (.cells #[.slice B5 cs.length d5] 31))
    have k5 := k5.alloc k5.size (.cells #[.slice B5 cs.length d5] 31)
    obtain ⟨e01, e02, -⟩ := E0.out
    obtain ⟨x01, x02, -⟩ := X0.out
    obtain ⟨w01, w02, -⟩ := W0.out
    obtain ⟨y01, y02, -⟩ := Y0.out
    go_wp2_with fail
    refine (deSame_same _ B5 Ae d5 ce cs _ rfl LY.out.sg LE.out.sg).mono ?_
    rintro e w6 ⟨rfl, b6⟩
    clear e01 e02 x01 x02 w01 w02 y01 y02
    have E0 := hd (E0.out.below b6)
    have X0 := hd (X0.out.below b6)
    have W0 := hd (W0.out.below b6)
    have Y0 := hd (Y0.out.below b6)
    have LE := hd (LE.out.below b6)
    have LX := hd (LX.out.below b6)
    have LW := hd (LW.out.below b6)
    have LY := hd (LY.out.below b6)
    have k6 := k5.trans (b6.mono k5.size)
    clear b6
    obtain ⟨e01, e02, -⟩ := E0.out
    obtain ⟨x01, x02, -⟩ := X0.out
    obtain ⟨w01, w02, -⟩ := W0.out
    obtain ⟨y01, y02, -⟩ := Y0.out
    go_wp2_with fail
    refine (EngineValid_b _ B2 d2 z true _ rfl LX.out.sg Hshz.out Hvz.out).mono ?_
    rintro e w7 ⟨rfl, b7⟩
    clear e01 e02 x01 x02 w01 w02 y01 y02
    have E0 := hd (E0.out.below b7)
    have X0 := hd (X0.out.below b7)
    have W0 := hd (W0.out.below b7)
    have Y0 := hd (Y0.out.below b7)
    have LE := hd (LE.out.below b7)
    have LX := hd (LX.out.below b7)
    have LW := hd (LW.out.below b7)
    have LY := hd (LY.out.below b7)
    have k7 := k6.trans (b7.mono k6.size)
    clear b7
    obtain ⟨e01, e02, -⟩ := E0.out
    obtain ⟨x01, x02, -⟩ := X0.out
    obtain ⟨w01, w02, -⟩ := W0.out
    obtain ⟨y01, y02, -⟩ := Y0.out
    go_wp2
    go_ret
    exact ⟨rfl, k7⟩

end Go.Proofs.Ytcalheieakppmaa
