/- The walk of the law TurnMany: the law returns true, whatever the input. -/
import Derived.Test.YtcalheieakppmaaLwJ
import Derived.Test.YtcalheieakppmaaSpeW
import Derived.Test.YtcalheieakppmaaDrawM
namespace Go.Proofs.Ytcalheieakppmaa
open Go.RowKit
set_option maxRecDepth 4000

theorem tm_r (N NI : Int) (A : Option Addr) (c n : Nat) (cs z : List ByteArray) (ok : Bool) (w : World) (hN : NI = N) (hn : cs.length = n) (h : SS w A cs) (hs : Short cs) (hz : (manyF N cs).getD [] = z ∧ (manyF N cs).isSome = ok) :
    Calls Try.prog 65 #[.agg #[.slice A n c], .int .i64 NI] w fun e w' => RetEB 9 w.heap.size w z ok e w' := by
  obtain ⟨rfl, rfl⟩ := hz
  subst hN
  exact TurnMany_any A c n cs NI w hn h hs
theorem stm_r (N NI : Int) (A : Option Addr) (c n : Nat) (cs z : List ByteArray) (ok : Bool) (w : World) (hN : NI = N) (hn : cs.length = n) (h : SS w A cs) (hs : Short cs) (hz : (manyF N cs).getD [] = z ∧ (manyF N cs).isSome = ok) :
    Calls Try.prog 66 #[.agg #[.slice A n c], .int .i64 NI] w fun e w' => RetEB 9 w.heap.size w z ok e w' := by
  obtain ⟨rfl, rfl⟩ := hz
  subst hN
  exact sTurnMany_any A c n cs NI w hn h hs
theorem manyF_turnF {N : Int} {cs : List ByteArray} (h : inB N 300 = true) : manyF N cs = turnF (manyV · N) cs := by rw [manyF, if_pos h]

theorem TurnMany_big0 (A A' : Option Addr) (c c' n m : Nat) (w : World) (h1 : 1048576 < n) (h2 : n ≤ 9223372036854775807) :
    Calls Try.prog 15 #[.slice A n c, .slice A' m c'] w fun e w' => e = .returned (.bool true) ∧ Below w.heap.size w w' := by
  have hbig' : (1048576 : Int) < n := by omega
  go_enter Try.func15, Try.ntmps15
  go_wp2
  go_ret
  exact ⟨rfl, Below.refl _ _⟩
theorem TurnMany_big1 (A A' : Option Addr) (c c' n m : Nat) (w : World) (h0 : n ≤ 1048576) (h1 : 1048576 < m) (h2 : m ≤ 9223372036854775807) :
    Calls Try.prog 15 #[.slice A n c, .slice A' m c'] w fun e w' => e = .returned (.bool true) ∧ Below w.heap.size w w' := by
  have hbig' : (1048576 : Int) < m := by omega
  have hbig0 : ¬ (1048576 : Int) < n := by omega
  go_enter Try.func15, Try.ntmps15
  go_wp2
  go_ret
  exact ⟨rfl, Below.refl _ _⟩

set_option maxHeartbeats 8000000 in
theorem TurnMany_walk (A : Option Addr) (c : Nat) (zs : List Int) (A' : Option Addr) (c' m : Nat) (w : World) (h : SR w A (zs.map (Value.int .u8))) (hbig : zs.length ≤ 1048576) (hbm : m ≤ 1048576) (hcap : zs.length ≤ c) (hx : ∀ x ∈ zs, 0 ≤ x ∧ x ≤ 255) :
    Calls Try.prog 15 #[.slice A zs.length c, .slice A' m c'] w fun e w' => e = .returned (.bool true) ∧ Below w.heap.size w w' := by
  have H := hd h
  have Hx := hd hx
  have hbig' : ¬ (1048576 : Int) < zs.length := by omega
  have hbig1 : ¬ (1048576 : Int) < m := by omega
  obtain ⟨k0, hk0⟩ : ∃ k0, k0 = m % 30 := ⟨_, rfl⟩
  have em : (m : Int) % 30 = (k0 : Int) := by omega
  have hk1 : k0 ≤ 29 := by omega
  clear h hx hk0
  go_enter Try.func15, Try.ntmps15
  go_wp2_with fail
  refine (DrawTurnMany_any A c zs _ H.out hcap Hx.out).mono ?_
  rintro e w1 ⟨Ae, ce, cs, v, rfl, ⟨hl8, hsz⟩, own1, k1, hv64⟩
  have Hsh := hd (hsz.short (by decide))
  have LE := hd own1
  clear hsz own1
  have E0 := hd (Cl.new w1 (.slice Ae cs.length ce) 31)
  have LE := hd (LE.out.alloc (.cells #[.slice Ae cs.length ce] 31))
  have k1 := k1.alloc k1.size (.cells #[.slice Ae cs.length ce] 31)
  obtain ⟨e01, e02, -⟩ := E0.out
  cases hm : manyF v cs with
  | none =>
    obtain ⟨z, hz0⟩ : ∃ z : List ByteArray, z = [] := ⟨_, rfl⟩
    have Hz : Hid ((manyF v cs).getD [] = z ∧ (manyF v cs).isSome = false) := hd (by rw [hm, hz0]; exact ⟨rfl, rfl⟩)
    clear hz0 hm
    go_wp2_with fail
    refine (tm_r v _ Ae ce _ cs z false _ (by first | rfl | omega) rfl LE.out.sg Hsh.out Hz.out).mono ?_
    rintro e w2 ⟨B2, d2, rfl, own2, b2⟩
    clear e01 e02
    have E0 := hd (E0.out.below b2)
    have LE := hd (LE.out.below b2)
    have k2 := k1.trans (b2.mono k1.size)
    have LX := hd own2
    clear own2
    clear b2
    obtain ⟨e01, e02, -⟩ := E0.out
    clear e01 e02
    have X0 := hd (Cl.new w2 (.slice B2 z.length d2) 31)
    have E0 := hd (E0.out.alloc (.cells #[.slice B2 z.length d2] 31))
    have LE := hd (LE.out.alloc (.cells #[.slice B2 z.length d2] 31))
    have LX := hd (LX.out.alloc (.cells #[.slice B2 z.length d2] 31))
    have k2 := k2.alloc k2.size (.cells #[.slice B2 z.length d2] 31)
    obtain ⟨e01, e02, -⟩ := E0.out
    obtain ⟨x01, x02, -⟩ := X0.out
    go_wp2_with fail
    refine (stm_r v _ Ae ce _ cs z false _ (by first | rfl | omega) rfl LE.out.sg Hsh.out Hz.out).mono ?_
    rintro e w3 ⟨B3, d3, rfl, own3, b3⟩
    clear e01 e02 x01 x02
    have E0 := hd (E0.out.below b3)
    have X0 := hd (X0.out.below b3)
    have LE := hd (LE.out.below b3)
    have LX := hd (LX.out.below b3)
    have k3 := k2.trans (b3.mono k2.size)
    have LW := hd own3
    clear own3
    clear b3
    obtain ⟨e01, e02, -⟩ := E0.out
    obtain ⟨x01, x02, -⟩ := X0.out
    clear e01 e02 x01 x02
    have W0 := hd (Cl.new w3 (.slice B3 z.length d3) 31)
    have E0 := hd (E0.out.alloc (.cells #[.slice B3 z.length d3] 31))
    have X0 := hd (X0.out.alloc (.cells #[.slice B3 z.length d3] 31))
    have LE := hd (LE.out.alloc (.cells #[.slice B3 z.length d3] 31))
    have LX := hd (LX.out.alloc (.cells #[.slice B3 z.length d3] 31))
    have LW := hd (LW.out.alloc (.cells #[.slice B3 z.length d3] 31))
    have k3 := k3.alloc k3.size (.cells #[.slice B3 z.length d3] 31)
    obtain ⟨e01, e02, -⟩ := E0.out
    obtain ⟨x01, x02, -⟩ := X0.out
    obtain ⟨w01, w02, -⟩ := W0.out
    go_wp2_with fail
    refine (deSame_same _ B2 B3 d2 d3 z _ rfl LX.out.sg LW.out.sg).mono ?_
    rintro e w4 ⟨rfl, b4⟩
    clear e01 e02 x01 x02 w01 w02
    have E0 := hd (E0.out.below b4)
    have X0 := hd (X0.out.below b4)
    have W0 := hd (W0.out.below b4)
    have LE := hd (LE.out.below b4)
    have LX := hd (LX.out.below b4)
    have LW := hd (LW.out.below b4)
    have k4 := k3.trans (b4.mono k3.size)
    clear b4
    obtain ⟨e01, e02, -⟩ := E0.out
    obtain ⟨x01, x02, -⟩ := X0.out
    obtain ⟨w01, w02, -⟩ := W0.out
    go_wp2_with fail
    refine (deSame_same _ B2 B3 d2 d3 z _ rfl LX.out.sg LW.out.sg).mono ?_
    rintro e w5 ⟨rfl, b5⟩
    clear e01 e02 x01 x02 w01 w02
    have E0 := hd (E0.out.below b5)
    have X0 := hd (X0.out.below b5)
    have W0 := hd (W0.out.below b5)
    have LE := hd (LE.out.below b5)
    have LX := hd (LX.out.below b5)
    have LW := hd (LW.out.below b5)
    have k5 := k4.trans (b5.mono k4.size)
    clear b5
    obtain ⟨e01, e02, -⟩ := E0.out
    obtain ⟨x01, x02, -⟩ := X0.out
    obtain ⟨w01, w02, -⟩ := W0.out
    go_wp2
    go_ret
    exact ⟨rfl, k5⟩
  | some z =>
    have Hz : Hid ((manyF v cs).getD [] = z ∧ (manyF v cs).isSome = true) := hd (by rw [hm]; exact ⟨rfl, rfl⟩)
    have hi : inB v 300 = true := by cases hi : inB v 300 with | true => rfl | false => rw [manyF_out hi] at hm; cases hm
    have hv : engV cs = true := by cases hv : engV cs with | true => rfl | false => rw [manyF_inv hv] at hm; cases hm
    have hz0 : z = eng (hsz cs) (manyV (cvs cs) v) := by rw [manyF_some hv hi] at hm; injection hm with hm; exact hm.symm
    have hv1 : -300 ≤ v ∧ v ≤ 300 := by simp [inB] at hi; omega
    obtain ⟨hv2, hv3⟩ := hv1
    have h2 := turnF_turnF (f := (manyV · v)) (g := (manyV · ((k0 : Int) - 10))) hv (fun _ => manyV_length _ _) hz0 (fun _ _ _ h => h.many _)
    have h3 := turnF_turnF (f := (manyV · v)) (g := (manyV · (-v))) hv (fun _ => manyV_length _ _) hz0 (fun _ _ _ h => h.many _)
    obtain ⟨z2, hz2⟩ : ∃ z : List ByteArray, z = eng (hsz cs) (manyV (cvs cs) ((k0 : Int) - 10 + v)) := ⟨_, rfl⟩
    have Hy : Hid ((manyF ((k0 : Int) - 10) z).getD [] = z2 ∧ (manyF ((k0 : Int) - 10) z).isSome = true) := hd (by rw [manyF_turnF (by simp [inB]; omega), h2.2, Option.getD_some, manyV_manyV, hz2]; exact ⟨rfl, rfl⟩)
    have Hb : Hid ((manyF (-v) z).getD [] = cs ∧ (manyF (-v) z).isSome = true) := hd (by rw [manyF_turnF (by simp [inB]; omega), h3.2]; refine ⟨?_, rfl⟩; rw [Option.getD_some, manyV_manyV, show -v + v = 0 by omega, manyV_zero]; exact (engV_vals hv).1.symm)
    have Hshz := hd (eng_short' h2.1)
    have eneg : IntKind.i64.wrap (-v) = -v := IntWalk.i64_in _ (by omega)
    have eadd : IntKind.i64.wrap (v + ((k0 : Int) - 10)) = v + ((k0 : Int) - 10) := IntWalk.i64_in _ (by omega)
    cases ha : inB (v + ((k0 : Int) - 10)) 300 with
    | false =>
      obtain ⟨z4, hz4⟩ : ∃ z : List ByteArray, z = [] := ⟨_, rfl⟩
      have Ha : Hid ((manyF (v + ((k0 : Int) - 10)) cs).getD [] = z4 ∧ (manyF (v + ((k0 : Int) - 10)) cs).isSome = false) := hd (by rw [manyF_out ha, hz4]; exact ⟨rfl, rfl⟩)
      clear hz4
      clear hz0 hz2 hm hi hv h2 h3 ha
      go_wp2_with fail
      refine (tm_r v _ Ae ce _ cs z true _ (by first | rfl | omega) rfl LE.out.sg Hsh.out Hz.out).mono ?_
      rintro e w2 ⟨B2, d2, rfl, own2, b2⟩
      clear e01 e02
      have E0 := hd (E0.out.below b2)
      have LE := hd (LE.out.below b2)
      have k2 := k1.trans (b2.mono k1.size)
      have LX := hd own2
      clear own2
      clear b2
      obtain ⟨e01, e02, -⟩ := E0.out
      clear e01 e02
      have X0 := hd (Cl.new w2 (.slice B2 z.length d2) 31)
      have E0 := hd (E0.out.alloc (.cells #[.slice B2 z.length d2] 31))
      have LE := hd (LE.out.alloc (.cells #[.slice B2 z.length d2] 31))
      have LX := hd (LX.out.alloc (.cells #[.slice B2 z.length d2] 31))
      have k2 := k2.alloc k2.size (.cells #[.slice B2 z.length d2] 31)
      obtain ⟨e01, e02, -⟩ := E0.out
      obtain ⟨x01, x02, -⟩ := X0.out
      go_wp2_with fail
      refine (stm_r v _ Ae ce _ cs z true _ (by first | rfl | omega) rfl LE.out.sg Hsh.out Hz.out).mono ?_
      rintro e w3 ⟨B3, d3, rfl, own3, b3⟩
      clear e01 e02 x01 x02
      have E0 := hd (E0.out.below b3)
      have X0 := hd (X0.out.below b3)
      have LE := hd (LE.out.below b3)
      have LX := hd (LX.out.below b3)
      have k3 := k2.trans (b3.mono k2.size)
      have LW := hd own3
      clear own3
      clear b3
      obtain ⟨e01, e02, -⟩ := E0.out
      obtain ⟨x01, x02, -⟩ := X0.out
      clear e01 e02 x01 x02
      have W0 := hd (Cl.new w3 (.slice B3 z.length d3) 31)
      have E0 := hd (E0.out.alloc (.cells #[.slice B3 z.length d3] 31))
      have X0 := hd (X0.out.alloc (.cells #[.slice B3 z.length d3] 31))
      have LE := hd (LE.out.alloc (.cells #[.slice B3 z.length d3] 31))
      have LX := hd (LX.out.alloc (.cells #[.slice B3 z.length d3] 31))
      have LW := hd (LW.out.alloc (.cells #[.slice B3 z.length d3] 31))
      have k3 := k3.alloc k3.size (.cells #[.slice B3 z.length d3] 31)
      obtain ⟨e01, e02, -⟩ := E0.out
      obtain ⟨x01, x02, -⟩ := X0.out
      obtain ⟨w01, w02, -⟩ := W0.out
      go_wp2_with fail
      refine (deSame_same _ B2 B3 d2 d3 z _ rfl LX.out.sg LW.out.sg).mono ?_
      rintro e w4 ⟨rfl, b4⟩
      clear e01 e02 x01 x02 w01 w02
      have E0 := hd (E0.out.below b4)
      have X0 := hd (X0.out.below b4)
      have W0 := hd (W0.out.below b4)
      have LE := hd (LE.out.below b4)
      have LX := hd (LX.out.below b4)
      have LW := hd (LW.out.below b4)
      have k4 := k3.trans (b4.mono k3.size)
      clear b4
      obtain ⟨e01, e02, -⟩ := E0.out
      obtain ⟨x01, x02, -⟩ := X0.out
      obtain ⟨w01, w02, -⟩ := W0.out
      go_wp2_with fail
      refine (tm_r ((k0 : Int) - 10) _ B2 d2 _ z z2 true _ (by first | rfl | omega) rfl LX.out.sg Hshz.out Hy.out).mono ?_
      rintro e w5 ⟨B5, d5, rfl, own5, b5⟩
      clear e01 e02 x01 x02 w01 w02
      have E0 := hd (E0.out.below b5)
      have X0 := hd (X0.out.below b5)
      have W0 := hd (W0.out.below b5)
      have LE := hd (LE.out.below b5)
      have LX := hd (LX.out.below b5)
      have LW := hd (LW.out.below b5)
      have k5 := k4.trans (b5.mono k4.size)
      have LY := hd own5
      clear own5
      clear b5
      obtain ⟨e01, e02, -⟩ := E0.out
      obtain ⟨x01, x02, -⟩ := X0.out
      obtain ⟨w01, w02, -⟩ := W0.out
      clear e01 e02 x01 x02 w01 w02
      have Y0 := hd (Cl.new w5 (.slice B5 z2.length d5) 31)
      have E0 := hd (E0.out.alloc (.cells #[.slice B5 z2.length d5] 31))
      have X0 := hd (X0.out.alloc (.cells #[.slice B5 z2.length d5] 31))
      have W0 := hd (W0.out.alloc (.cells #[.slice B5 z2.length d5] 31))
      have LE := hd (LE.out.alloc (.cells #[.slice B5 z2.length d5] 31))
      have LX := hd (LX.out.alloc (.cells #[.slice B5 z2.length d5] 31))
      have LW := hd (LW.out.alloc (.cells #[.slice B5 z2.length d5] 31))
      have LY := hd (LY.out.alloc (.cells #[.slice B5 z2.length d5] 31))
      have k5 := k5.alloc k5.size (.cells #[.slice B5 z2.length d5] 31)
      obtain ⟨e01, e02, -⟩ := E0.out
      obtain ⟨x01, x02, -⟩ := X0.out
      obtain ⟨w01, w02, -⟩ := W0.out
      obtain ⟨y01, y02, -⟩ := Y0.out
      go_wp2_with fail
      refine (tm_r (-v) _ B2 d2 _ z cs true _ (by first | rfl | omega) rfl LX.out.sg Hshz.out Hb.out).mono ?_
      rintro e w6 ⟨B6, d6, rfl, own6, b6⟩
      clear e01 e02 x01 x02 w01 w02 y01 y02
      have E0 := hd (E0.out.below b6)
      have X0 := hd (X0.out.below b6)
      have W0 := hd (W0.out.below b6)
      have Y0 := hd (Y0.out.below b6)
      have LE := hd (LE.out.below b6)
      have LX := hd (LX.out.below b6)
      have LW := hd (LW.out.below b6)
      have LY := hd (LY.out.below b6)
      have k6 := k5.trans (b6.mono k5.size)
      have LB := hd own6
      clear own6
      clear b6
      obtain ⟨e01, e02, -⟩ := E0.out
      obtain ⟨x01, x02, -⟩ := X0.out
      obtain ⟨w01, w02, -⟩ := W0.out
      obtain ⟨y01, y02, -⟩ := Y0.out
      clear e01 e02 x01 x02 w01 w02 y01 y02
      have B0 := hd (Cl.new w6 (.slice B6 cs.length d6) 31)
      have E0 := hd (E0.out.alloc (.cells #[.slice B6 cs.length d6] 31))
      have X0 := hd (X0.out.alloc (.cells #[.slice B6 cs.length d6] 31))
      have W0 := hd (W0.out.alloc (.cells #[.slice B6 cs.length d6] 31))
      have Y0 := hd (Y0.out.alloc (.cells #[.slice B6 cs.length d6] 31))
      have LE := hd (LE.out.alloc (.cells #[.slice B6 cs.length d6] 31))
      have LX := hd (LX.out.alloc (.cells #[.slice B6 cs.length d6] 31))
      have LW := hd (LW.out.alloc (.cells #[.slice B6 cs.length d6] 31))
      have LY := hd (LY.out.alloc (.cells #[.slice B6 cs.length d6] 31))
      have LB := hd (LB.out.alloc (.cells #[.slice B6 cs.length d6] 31))
      have k6 := k6.alloc k6.size (.cells #[.slice B6 cs.length d6] 31)
      obtain ⟨e01, e02, -⟩ := E0.out
      obtain ⟨x01, x02, -⟩ := X0.out
      obtain ⟨w01, w02, -⟩ := W0.out
      obtain ⟨y01, y02, -⟩ := Y0.out
      obtain ⟨b01, b02, -⟩ := B0.out
      go_wp2_with fail
      refine (tm_r (v + ((k0 : Int) - 10)) _ Ae ce _ cs z4 false _ (by first | rfl | omega) rfl LE.out.sg Hsh.out Ha.out).mono ?_
      rintro e w7 ⟨B7, d7, rfl, own7, b7⟩
      clear e01 e02 x01 x02 w01 w02 y01 y02 b01 b02
      have E0 := hd (E0.out.below b7)
      have X0 := hd (X0.out.below b7)
      have W0 := hd (W0.out.below b7)
      have Y0 := hd (Y0.out.below b7)
      have B0 := hd (B0.out.below b7)
      have LE := hd (LE.out.below b7)
      have LX := hd (LX.out.below b7)
      have LW := hd (LW.out.below b7)
      have LY := hd (LY.out.below b7)
      have LB := hd (LB.out.below b7)
      have k7 := k6.trans (b7.mono k6.size)
      have LA := hd own7
      clear own7
      clear b7
      obtain ⟨e01, e02, -⟩ := E0.out
      obtain ⟨x01, x02, -⟩ := X0.out
      obtain ⟨w01, w02, -⟩ := W0.out
      obtain ⟨y01, y02, -⟩ := Y0.out
      obtain ⟨b01, b02, -⟩ := B0.out
      clear e01 e02 x01 x02 w01 w02 y01 y02 b01 b02
      have A0 := hd (Cl.new w7 (.slice B7 z4.length d7) 31)
      have E0 := hd (E0.out.alloc (.cells #[.slice B7 z4.length d7] 31))
      have X0 := hd (X0.out.alloc (.cells #[.slice B7 z4.length d7] 31))
      have W0 := hd (W0.out.alloc (.cells #[.slice B7 z4.length d7] 31))
      have Y0 := hd (Y0.out.alloc (.cells #[.slice B7 z4.length d7] 31))
      have B0 := hd (B0.out.alloc (.cells #[.slice B7 z4.length d7] 31))
      have LE := hd (LE.out.alloc (.cells #[.slice B7 z4.length d7] 31))
      have LX := hd (LX.out.alloc (.cells #[.slice B7 z4.length d7] 31))
      have LW := hd (LW.out.alloc (.cells #[.slice B7 z4.length d7] 31))
      have LY := hd (LY.out.alloc (.cells #[.slice B7 z4.length d7] 31))
      have LB := hd (LB.out.alloc (.cells #[.slice B7 z4.length d7] 31))
      have LA := hd (LA.out.alloc (.cells #[.slice B7 z4.length d7] 31))
      have k7 := k7.alloc k7.size (.cells #[.slice B7 z4.length d7] 31)
      obtain ⟨e01, e02, -⟩ := E0.out
      obtain ⟨x01, x02, -⟩ := X0.out
      obtain ⟨w01, w02, -⟩ := W0.out
      obtain ⟨y01, y02, -⟩ := Y0.out
      obtain ⟨b01, b02, -⟩ := B0.out
      obtain ⟨a01, a02, -⟩ := A0.out
      go_wp2_with fail
      refine (deSame_same _ B6 Ae d6 ce cs _ rfl LB.out.sg LE.out.sg).mono ?_
      rintro e w8 ⟨rfl, b8⟩
      clear e01 e02 x01 x02 w01 w02 y01 y02 b01 b02 a01 a02
      have E0 := hd (E0.out.below b8)
      have X0 := hd (X0.out.below b8)
      have W0 := hd (W0.out.below b8)
      have Y0 := hd (Y0.out.below b8)
      have B0 := hd (B0.out.below b8)
      have A0 := hd (A0.out.below b8)
      have LE := hd (LE.out.below b8)
      have LX := hd (LX.out.below b8)
      have LW := hd (LW.out.below b8)
      have LY := hd (LY.out.below b8)
      have LB := hd (LB.out.below b8)
      have LA := hd (LA.out.below b8)
      have k8 := k7.trans (b8.mono k7.size)
      clear b8
      obtain ⟨e01, e02, -⟩ := E0.out
      obtain ⟨x01, x02, -⟩ := X0.out
      obtain ⟨w01, w02, -⟩ := W0.out
      obtain ⟨y01, y02, -⟩ := Y0.out
      obtain ⟨b01, b02, -⟩ := B0.out
      obtain ⟨a01, a02, -⟩ := A0.out
      go_wp2
      go_ret
      exact ⟨rfl, k8⟩
    | true =>
      have Ha : Hid ((manyF (v + ((k0 : Int) - 10)) cs).getD [] = z2 ∧ (manyF (v + ((k0 : Int) - 10)) cs).isSome = true) := hd (by rw [manyF_some hv ha, hz2, show v + ((k0 : Int) - 10) = (k0 : Int) - 10 + v by omega]; exact ⟨rfl, rfl⟩)
      clear hz0 hz2 hm hi hv h2 h3 ha
      go_wp2_with fail
      refine (tm_r v _ Ae ce _ cs z true _ (by first | rfl | omega) rfl LE.out.sg Hsh.out Hz.out).mono ?_
      rintro e w2 ⟨B2, d2, rfl, own2, b2⟩
      clear e01 e02
      have E0 := hd (E0.out.below b2)
      have LE := hd (LE.out.below b2)
      have k2 := k1.trans (b2.mono k1.size)
      have LX := hd own2
      clear own2
      clear b2
      obtain ⟨e01, e02, -⟩ := E0.out
      clear e01 e02
      have X0 := hd (Cl.new w2 (.slice B2 z.length d2) 31)
      have E0 := hd (E0.out.alloc (.cells #[.slice B2 z.length d2] 31))
      have LE := hd (LE.out.alloc (.cells #[.slice B2 z.length d2] 31))
      have LX := hd (LX.out.alloc (.cells #[.slice B2 z.length d2] 31))
      have k2 := k2.alloc k2.size (.cells #[.slice B2 z.length d2] 31)
      obtain ⟨e01, e02, -⟩ := E0.out
      obtain ⟨x01, x02, -⟩ := X0.out
      go_wp2_with fail
      refine (stm_r v _ Ae ce _ cs z true _ (by first | rfl | omega) rfl LE.out.sg Hsh.out Hz.out).mono ?_
      rintro e w3 ⟨B3, d3, rfl, own3, b3⟩
      clear e01 e02 x01 x02
      have E0 := hd (E0.out.below b3)
      have X0 := hd (X0.out.below b3)
      have LE := hd (LE.out.below b3)
      have LX := hd (LX.out.below b3)
      have k3 := k2.trans (b3.mono k2.size)
      have LW := hd own3
      clear own3
      clear b3
      obtain ⟨e01, e02, -⟩ := E0.out
      obtain ⟨x01, x02, -⟩ := X0.out
      clear e01 e02 x01 x02
      have W0 := hd (Cl.new w3 (.slice B3 z.length d3) 31)
      have E0 := hd (E0.out.alloc (.cells #[.slice B3 z.length d3] 31))
      have X0 := hd (X0.out.alloc (.cells #[.slice B3 z.length d3] 31))
      have LE := hd (LE.out.alloc (.cells #[.slice B3 z.length d3] 31))
      have LX := hd (LX.out.alloc (.cells #[.slice B3 z.length d3] 31))
      have LW := hd (LW.out.alloc (.cells #[.slice B3 z.length d3] 31))
      have k3 := k3.alloc k3.size (.cells #[.slice B3 z.length d3] 31)
      obtain ⟨e01, e02, -⟩ := E0.out
      obtain ⟨x01, x02, -⟩ := X0.out
      obtain ⟨w01, w02, -⟩ := W0.out
      go_wp2_with fail
      refine (deSame_same _ B2 B3 d2 d3 z _ rfl LX.out.sg LW.out.sg).mono ?_
      rintro e w4 ⟨rfl, b4⟩
      clear e01 e02 x01 x02 w01 w02
      have E0 := hd (E0.out.below b4)
      have X0 := hd (X0.out.below b4)
      have W0 := hd (W0.out.below b4)
      have LE := hd (LE.out.below b4)
      have LX := hd (LX.out.below b4)
      have LW := hd (LW.out.below b4)
      have k4 := k3.trans (b4.mono k3.size)
      clear b4
      obtain ⟨e01, e02, -⟩ := E0.out
      obtain ⟨x01, x02, -⟩ := X0.out
      obtain ⟨w01, w02, -⟩ := W0.out
      go_wp2_with fail
      refine (tm_r ((k0 : Int) - 10) _ B2 d2 _ z z2 true _ (by first | rfl | omega) rfl LX.out.sg Hshz.out Hy.out).mono ?_
      rintro e w5 ⟨B5, d5, rfl, own5, b5⟩
      clear e01 e02 x01 x02 w01 w02
      have E0 := hd (E0.out.below b5)
      have X0 := hd (X0.out.below b5)
      have W0 := hd (W0.out.below b5)
      have LE := hd (LE.out.below b5)
      have LX := hd (LX.out.below b5)
      have LW := hd (LW.out.below b5)
      have k5 := k4.trans (b5.mono k4.size)
      have LY := hd own5
      clear own5
      clear b5
      obtain ⟨e01, e02, -⟩ := E0.out
      obtain ⟨x01, x02, -⟩ := X0.out
      obtain ⟨w01, w02, -⟩ := W0.out
      clear e01 e02 x01 x02 w01 w02
      have Y0 := hd (Cl.new w5 (.slice B5 z2.length d5) 31)
      have E0 := hd (E0.out.alloc (.cells #[.slice B5 z2.length d5] 31))
      have X0 := hd (X0.out.alloc (.cells #[.slice B5 z2.length d5] 31))
      have W0 := hd (W0.out.alloc (.cells #[.slice B5 z2.length d5] 31))
      have LE := hd (LE.out.alloc (.cells #[.slice B5 z2.length d5] 31))
      have LX := hd (LX.out.alloc (.cells #[.slice B5 z2.length d5] 31))
      have LW := hd (LW.out.alloc (.cells #[.slice B5 z2.length d5] 31))
      have LY := hd (LY.out.alloc (.cells #[.slice B5 z2.length d5] 31))
      have k5 := k5.alloc k5.size (.cells #[.slice B5 z2.length d5] 31)
      obtain ⟨e01, e02, -⟩ := E0.out
      obtain ⟨x01, x02, -⟩ := X0.out
      obtain ⟨w01, w02, -⟩ := W0.out
      obtain ⟨y01, y02, -⟩ := Y0.out
      go_wp2_with fail
      refine (tm_r (-v) _ B2 d2 _ z cs true _ (by first | rfl | omega) rfl LX.out.sg Hshz.out Hb.out).mono ?_
      rintro e w6 ⟨B6, d6, rfl, own6, b6⟩
      clear e01 e02 x01 x02 w01 w02 y01 y02
      have E0 := hd (E0.out.below b6)
      have X0 := hd (X0.out.below b6)
      have W0 := hd (W0.out.below b6)
      have Y0 := hd (Y0.out.below b6)
      have LE := hd (LE.out.below b6)
      have LX := hd (LX.out.below b6)
      have LW := hd (LW.out.below b6)
      have LY := hd (LY.out.below b6)
      have k6 := k5.trans (b6.mono k5.size)
      have LB := hd own6
      clear own6
      clear b6
      obtain ⟨e01, e02, -⟩ := E0.out
      obtain ⟨x01, x02, -⟩ := X0.out
      obtain ⟨w01, w02, -⟩ := W0.out
      obtain ⟨y01, y02, -⟩ := Y0.out
      clear e01 e02 x01 x02 w01 w02 y01 y02
      have B0 := hd (Cl.new w6 (.slice B6 cs.length d6) 31)
      have E0 := hd (E0.out.alloc (.cells #[.slice B6 cs.length d6] 31))
      have X0 := hd (X0.out.alloc (.cells #[.slice B6 cs.length d6] 31))
      have W0 := hd (W0.out.alloc (.cells #[.slice B6 cs.length d6] 31))
      have Y0 := hd (Y0.out.alloc (.cells #[.slice B6 cs.length d6] 31))
      have LE := hd (LE.out.alloc (.cells #[.slice B6 cs.length d6] 31))
      have LX := hd (LX.out.alloc (.cells #[.slice B6 cs.length d6] 31))
      have LW := hd (LW.out.alloc (.cells #[.slice B6 cs.length d6] 31))
      have LY := hd (LY.out.alloc (.cells #[.slice B6 cs.length d6] 31))
      have LB := hd (LB.out.alloc (.cells #[.slice B6 cs.length d6] 31))
      have k6 := k6.alloc k6.size (.cells #[.slice B6 cs.length d6] 31)
      obtain ⟨e01, e02, -⟩ := E0.out
      obtain ⟨x01, x02, -⟩ := X0.out
      obtain ⟨w01, w02, -⟩ := W0.out
      obtain ⟨y01, y02, -⟩ := Y0.out
      obtain ⟨b01, b02, -⟩ := B0.out
      go_wp2_with fail
      refine (tm_r (v + ((k0 : Int) - 10)) _ Ae ce _ cs z2 true _ (by first | rfl | omega) rfl LE.out.sg Hsh.out Ha.out).mono ?_
      rintro e w7 ⟨B7, d7, rfl, own7, b7⟩
      clear e01 e02 x01 x02 w01 w02 y01 y02 b01 b02
      have E0 := hd (E0.out.below b7)
      have X0 := hd (X0.out.below b7)
      have W0 := hd (W0.out.below b7)
      have Y0 := hd (Y0.out.below b7)
      have B0 := hd (B0.out.below b7)
      have LE := hd (LE.out.below b7)
      have LX := hd (LX.out.below b7)
      have LW := hd (LW.out.below b7)
      have LY := hd (LY.out.below b7)
      have LB := hd (LB.out.below b7)
      have k7 := k6.trans (b7.mono k6.size)
      have LA := hd own7
      clear own7
      clear b7
      obtain ⟨e01, e02, -⟩ := E0.out
      obtain ⟨x01, x02, -⟩ := X0.out
      obtain ⟨w01, w02, -⟩ := W0.out
      obtain ⟨y01, y02, -⟩ := Y0.out
      obtain ⟨b01, b02, -⟩ := B0.out
      clear e01 e02 x01 x02 w01 w02 y01 y02 b01 b02
      have A0 := hd (Cl.new w7 (.slice B7 z2.length d7) 31)
      have E0 := hd (E0.out.alloc (.cells #[.slice B7 z2.length d7] 31))
      have X0 := hd (X0.out.alloc (.cells #[.slice B7 z2.length d7] 31))
      have W0 := hd (W0.out.alloc (.cells #[.slice B7 z2.length d7] 31))
      have Y0 := hd (Y0.out.alloc (.cells #[.slice B7 z2.length d7] 31))
      have B0 := hd (B0.out.alloc (.cells #[.slice B7 z2.length d7] 31))
      have LE := hd (LE.out.alloc (.cells #[.slice B7 z2.length d7] 31))
      have LX := hd (LX.out.alloc (.cells #[.slice B7 z2.length d7] 31))
      have LW := hd (LW.out.alloc (.cells #[.slice B7 z2.length d7] 31))
      have LY := hd (LY.out.alloc (.cells #[.slice B7 z2.length d7] 31))
      have LB := hd (LB.out.alloc (.cells #[.slice B7 z2.length d7] 31))
      have LA := hd (LA.out.alloc (.cells #[.slice B7 z2.length d7] 31))
      have k7 := k7.alloc k7.size (.cells #[.slice B7 z2.length d7] 31)
      obtain ⟨e01, e02, -⟩ := E0.out
      obtain ⟨x01, x02, -⟩ := X0.out
      obtain ⟨w01, w02, -⟩ := W0.out
      obtain ⟨y01, y02, -⟩ := Y0.out
      obtain ⟨b01, b02, -⟩ := B0.out
      obtain ⟨a01, a02, -⟩ := A0.out
      go_wp2_with fail
      refine (deSame_same _ B6 Ae d6 ce cs _ rfl LB.out.sg LE.out.sg).mono ?_
      rintro e w8 ⟨rfl, b8⟩
      clear e01 e02 x01 x02 w01 w02 y01 y02 b01 b02 a01 a02
      have E0 := hd (E0.out.below b8)
      have X0 := hd (X0.out.below b8)
      have W0 := hd (W0.out.below b8)
      have Y0 := hd (Y0.out.below b8)
      have B0 := hd (B0.out.below b8)
      have A0 := hd (A0.out.below b8)
      have LE := hd (LE.out.below b8)
      have LX := hd (LX.out.below b8)
      have LW := hd (LW.out.below b8)
      have LY := hd (LY.out.below b8)
      have LB := hd (LB.out.below b8)
      have LA := hd (LA.out.below b8)
      have k8 := k7.trans (b8.mono k7.size)
      clear b8
      obtain ⟨e01, e02, -⟩ := E0.out
      obtain ⟨x01, x02, -⟩ := X0.out
      obtain ⟨w01, w02, -⟩ := W0.out
      obtain ⟨y01, y02, -⟩ := Y0.out
      obtain ⟨b01, b02, -⟩ := B0.out
      obtain ⟨a01, a02, -⟩ := A0.out
      go_wp2_with fail
      refine (deSame_same _ B5 B7 d5 d7 z2 _ rfl LY.out.sg LA.out.sg).mono ?_
      rintro e w9 ⟨rfl, b9⟩
      clear e01 e02 x01 x02 w01 w02 y01 y02 b01 b02 a01 a02
      have E0 := hd (E0.out.below b9)
      have X0 := hd (X0.out.below b9)
      have W0 := hd (W0.out.below b9)
      have Y0 := hd (Y0.out.below b9)
      have B0 := hd (B0.out.below b9)
      have A0 := hd (A0.out.below b9)
      have LE := hd (LE.out.below b9)
      have LX := hd (LX.out.below b9)
      have LW := hd (LW.out.below b9)
      have LY := hd (LY.out.below b9)
      have LB := hd (LB.out.below b9)
      have LA := hd (LA.out.below b9)
      have k9 := k8.trans (b9.mono k8.size)
      clear b9
      obtain ⟨e01, e02, -⟩ := E0.out
      obtain ⟨x01, x02, -⟩ := X0.out
      obtain ⟨w01, w02, -⟩ := W0.out
      obtain ⟨y01, y02, -⟩ := Y0.out
      obtain ⟨b01, b02, -⟩ := B0.out
      obtain ⟨a01, a02, -⟩ := A0.out
      go_wp2
      go_ret
      exact ⟨rfl, k9⟩

end Go.Proofs.Ytcalheieakppmaa
