/- The walk of the law SetUpRead: the law returns true, whatever the input. -/
import Derived.Test.YtkmblobfamhoiaaLwP
import Derived.Test.YtkmblobfamhoiaaGrI
import Derived.Deep.RegionHeld3
namespace Go.Proofs.Ytkmblobfamhoiaa
open Go.RowKit
set_option maxRecDepth 4000

theorem SetUpRead_big (A : Option Addr) (c n : Nat) (w : World) (h1 : 1048576 < n) (h2 : n ≤ 9223372036854775807) :
    Calls Try.prog 9 #[.slice A n c] w fun e w' => e = .returned (.bool true) ∧ Below w.heap.size w w' := by
  have hbig' : (1048576 : Int) < n := by omega
  go_enter Try.func9, Try.ntmps9
  go_wp2
  go_ret
  exact ⟨rfl, Below.refl _ _⟩

set_option maxHeartbeats 4000000 in
theorem SetUpRead_walk (A : Option Addr) (c : Nat) (zs : List Int) (w : World) (h : SR w A (zs.map (Value.int .u8))) (hbig : zs.length ≤ 1048576) (hcap : zs.length ≤ c) (hx : ∀ x ∈ zs, 0 ≤ x ∧ x ≤ 255) :
    Calls Try.prog 9 #[.slice A zs.length c] w fun e w' => e = .returned (.bool true) ∧ Below w.heap.size w w' := by
  have H := hd h
  have Hx := hd hx
  have hbig' : ¬ (1048576 : Int) < zs.length := by omega
  clear h hx
  go_enter Try.func9, Try.ntmps9
  go_wp2_with fail
  refine (DrawSetUp_any A c zs _ H.out hcap Hx.out).mono ?_
  rintro e w1 ⟨Ap, cp, p, n, N, rfl, hp8, own1, hcp, k1, hn64, hN64⟩
  have LP : Hid (OwnG (Value.int .i64) 3 w.heap.size w1 Ap cp p) := hd own1
  clear own1
  cases hm : setF p n N with
  | none =>
    obtain ⟨z, hz0⟩ : ∃ z : List ByteArray, z = [] := ⟨_, rfl⟩
    have Hz : Hid ((setF p n N).getD [] = z ∧ (setF p n N).isSome = false) := hd (by rw [hm, hz0]; exact ⟨rfl, rfl⟩)
    clear hz0 hm
    go_wp2_with fail
    refine (SetUp_z n N Ap cp _ p z false _ rfl LP.out.sg hcp Hz.out).mono ?_
    rintro e w2 ⟨B2, d2, rfl, own2, b2⟩
    have LP := hd (LP.out.below b2)
    have k2 := k1.trans (b2.mono k1.size)
    have LX := hd own2
    clear own2
    clear b2
    have X0 := hd (Cl.new w2 (.slice B2 z.length d2) 36)
    have LP := hd (LP.out.alloc (.cells #[.slice B2 z.length d2] 36))
    have LX := hd (LX.out.alloc (.cells #[.slice B2 z.length d2] 36))
    have k2 := k2.alloc k2.size (.cells #[.slice B2 z.length d2] 36)
    obtain ⟨x01, x02, -⟩ := X0.out
    go_wp2_with fail
    refine (sSetUp_z n N Ap cp _ p z false _ rfl LP.out.sg hcp Hz.out).mono ?_
    rintro e w3 ⟨B3, d3, rfl, own3, b3⟩
    clear x01 x02
    have X0 := hd (X0.out.below b3)
    have LP := hd (LP.out.below b3)
    have LX := hd (LX.out.below b3)
    have k3 := k2.trans (b3.mono k2.size)
    have LW := hd own3
    clear own3
    clear b3
    obtain ⟨x01, x02, -⟩ := X0.out
    clear x01 x02
    have W0 := hd (Cl.new w3 (.slice B3 z.length d3) 36)
    have X0 := hd (X0.out.alloc (.cells #[.slice B3 z.length d3] 36))
    have LP := hd (LP.out.alloc (.cells #[.slice B3 z.length d3] 36))
    have LX := hd (LX.out.alloc (.cells #[.slice B3 z.length d3] 36))
    have LW := hd (LW.out.alloc (.cells #[.slice B3 z.length d3] 36))
    have k3 := k3.alloc k3.size (.cells #[.slice B3 z.length d3] 36)
    obtain ⟨x01, x02, -⟩ := X0.out
    obtain ⟨w01, w02, -⟩ := W0.out
    go_wp2_with fail
    refine (deSame_same _ B2 B3 d2 d3 z _ rfl LX.out.sg LW.out.sg).mono ?_
    rintro e w4 ⟨rfl, b4⟩
    clear x01 x02 w01 w02
    have X0 := hd (X0.out.below b4)
    have W0 := hd (W0.out.below b4)
    have LP := hd (LP.out.below b4)
    have LX := hd (LX.out.below b4)
    have LW := hd (LW.out.below b4)
    have k4 := k3.trans (b4.mono k3.size)
    clear b4
    obtain ⟨x01, x02, -⟩ := X0.out
    obtain ⟨w01, w02, -⟩ := W0.out
    go_wp2_with fail
    refine (deSame_same _ B2 B3 d2 d3 z _ rfl LX.out.sg LW.out.sg).mono ?_
    rintro e w5 ⟨rfl, b5⟩
    clear x01 x02 w01 w02
    have X0 := hd (X0.out.below b5)
    have W0 := hd (W0.out.below b5)
    have LP := hd (LP.out.below b5)
    have LX := hd (LX.out.below b5)
    have LW := hd (LW.out.below b5)
    have k5 := k4.trans (b5.mono k4.size)
    clear b5
    obtain ⟨x01, x02, -⟩ := X0.out
    obtain ⟨w01, w02, -⟩ := W0.out
    go_wp2
    go_ret
    exact ⟨rfl, k5⟩
  | some z =>
    have Hz : Hid ((setF p n N).getD [] = z ∧ (setF p n N).isSome = true) := hd (by rw [hm]; exact ⟨rfl, rfl⟩)
    obtain ⟨q, W, hq, hNW, hW1, hW12, hzq, hvz, ⟨hq1, hq7⟩, hrd, hrs⟩ := set_read hm
    obtain ⟨hvp, hvq, ⟨hn1, hn2⟩, hqe, hql, hqv⟩ := shiftP_some hq
    have Hr : Hid ((readF z).getD [] = q ∧ (readF z).isSome = true) := hd (by rw [hrd]; exact ⟨rfl, rfl⟩)
    have Hq : Hid ((shiftP p n).getD [] = q ∧ (shiftP p n).isSome = true) := hd (by rw [hq]; exact ⟨rfl, rfl⟩)
    have Hrs := hd hrs
    have Hev : Hid (evl p n = val p n) := hd (evl_in hvp hn1 hn2)
    have Hvz := hd hvz
    have Hsh := hd (eng_short' hvz)
    have Hzl : Hid (z.length = p.length) := hd (by rw [hzq, eng_length, hql])
    clear hq hzq hvz hrd hrs hvp hvq hn1 hn2 hqe hql hqv hm hq1 hq7 hNW hW1 hW12
    go_wp2_with fail
    refine (SetUp_z n N Ap cp _ p z true _ rfl LP.out.sg hcp Hz.out).mono ?_
    rintro e w2 ⟨B2, d2, rfl, own2, b2⟩
    have LP := hd (LP.out.below b2)
    have k2 := k1.trans (b2.mono k1.size)
    have LX := hd own2
    clear own2
    clear b2
    have X0 := hd (Cl.new w2 (.slice B2 z.length d2) 36)
    have LP := hd (LP.out.alloc (.cells #[.slice B2 z.length d2] 36))
    have LX := hd (LX.out.alloc (.cells #[.slice B2 z.length d2] 36))
    have k2 := k2.alloc k2.size (.cells #[.slice B2 z.length d2] 36)
    obtain ⟨x01, x02, -⟩ := X0.out
    go_wp2_with fail
    refine (sSetUp_z n N Ap cp _ p z true _ rfl LP.out.sg hcp Hz.out).mono ?_
    rintro e w3 ⟨B3, d3, rfl, own3, b3⟩
    clear x01 x02
    have X0 := hd (X0.out.below b3)
    have LP := hd (LP.out.below b3)
    have LX := hd (LX.out.below b3)
    have k3 := k2.trans (b3.mono k2.size)
    have LW := hd own3
    clear own3
    clear b3
    obtain ⟨x01, x02, -⟩ := X0.out
    clear x01 x02
    have W0 := hd (Cl.new w3 (.slice B3 z.length d3) 36)
    have X0 := hd (X0.out.alloc (.cells #[.slice B3 z.length d3] 36))
    have LP := hd (LP.out.alloc (.cells #[.slice B3 z.length d3] 36))
    have LX := hd (LX.out.alloc (.cells #[.slice B3 z.length d3] 36))
    have LW := hd (LW.out.alloc (.cells #[.slice B3 z.length d3] 36))
    have k3 := k3.alloc k3.size (.cells #[.slice B3 z.length d3] 36)
    obtain ⟨x01, x02, -⟩ := X0.out
    obtain ⟨w01, w02, -⟩ := W0.out
    go_wp2_with fail
    refine (deSame_same _ B2 B3 d2 d3 z _ rfl LX.out.sg LW.out.sg).mono ?_
    rintro e w4 ⟨rfl, b4⟩
    clear x01 x02 w01 w02
    have X0 := hd (X0.out.below b4)
    have W0 := hd (W0.out.below b4)
    have LP := hd (LP.out.below b4)
    have LX := hd (LX.out.below b4)
    have LW := hd (LW.out.below b4)
    have k4 := k3.trans (b4.mono k3.size)
    clear b4
    obtain ⟨x01, x02, -⟩ := X0.out
    obtain ⟨w01, w02, -⟩ := W0.out
    go_wp2_with fail
    refine (ReadEngine_z B2 d2 _ z q true _ rfl LX.out.sg Hsh.out Hr.out).mono ?_
    rintro e w5 ⟨B5, d5, rfl, own5, b5⟩
    clear x01 x02 w01 w02
    have X0 := hd (X0.out.below b5)
    have W0 := hd (W0.out.below b5)
    have LP := hd (LP.out.below b5)
    have LX := hd (LX.out.below b5)
    have LW := hd (LW.out.below b5)
    have k5 := k4.trans (b5.mono k4.size)
    have LQ := hd own5
    clear own5
    clear b5
    obtain ⟨x01, x02, -⟩ := X0.out
    obtain ⟨w01, w02, -⟩ := W0.out
    go_wp2_with fail
    refine (ShiftPoly_z n Ap cp _ p q true _ rfl LP.out.sg hcp Hq.out).mono ?_
    rintro e w6 ⟨B6, d6, rfl, own6, b6⟩
    clear x01 x02 w01 w02
    have X0 := hd (X0.out.below b6)
    have W0 := hd (W0.out.below b6)
    have LP := hd (LP.out.below b6)
    have LX := hd (LX.out.below b6)
    have LW := hd (LW.out.below b6)
    have LQ := hd (LQ.out.below b6)
    have k6 := k5.trans (b6.mono k5.size)
    have LS := hd own6
    clear own6
    clear b6
    obtain ⟨x01, x02, -⟩ := X0.out
    obtain ⟨w01, w02, -⟩ := W0.out
    go_wp2_with fail
    refine (ResultOf_r _ B2 d2 z (val p n) true _ rfl LX.out.sg Hsh.out Hrs.out).mono ?_
    rintro e w7 ⟨rfl, b7⟩
    clear x01 x02 w01 w02
    have X0 := hd (X0.out.below b7)
    have W0 := hd (W0.out.below b7)
    have LP := hd (LP.out.below b7)
    have LX := hd (LX.out.below b7)
    have LW := hd (LW.out.below b7)
    have LQ := hd (LQ.out.below b7)
    have LS := hd (LS.out.below b7)
    have k7 := k6.trans (b7.mono k6.size)
    clear b7
    obtain ⟨x01, x02, -⟩ := X0.out
    obtain ⟨w01, w02, -⟩ := W0.out
    go_wp2_with fail
    refine (deInts_v _ _ B5 B6 d5 d6 q _ rfl rfl LQ.out.sg LS.out.sg).mono ?_
    rintro e w8 ⟨rfl, b8⟩
    clear x01 x02 w01 w02
    have X0 := hd (X0.out.below b8)
    have W0 := hd (W0.out.below b8)
    have LP := hd (LP.out.below b8)
    have LX := hd (LX.out.below b8)
    have LW := hd (LW.out.below b8)
    have LQ := hd (LQ.out.below b8)
    have LS := hd (LS.out.below b8)
    have k8 := k7.trans (b8.mono k7.size)
    clear b8
    obtain ⟨x01, x02, -⟩ := X0.out
    obtain ⟨w01, w02, -⟩ := W0.out
    go_wp2_with fail
    refine (deAt_v _ Ap cp _ p n (val p n) _ rfl rfl LP.out.sg Hev.out).mono ?_
    rintro e w9 ⟨rfl, b9⟩
    clear x01 x02 w01 w02
    have X0 := hd (X0.out.below b9)
    have W0 := hd (W0.out.below b9)
    have LP := hd (LP.out.below b9)
    have LX := hd (LX.out.below b9)
    have LW := hd (LW.out.below b9)
    have LQ := hd (LQ.out.below b9)
    have LS := hd (LS.out.below b9)
    have k9 := k8.trans (b9.mono k8.size)
    clear b9
    obtain ⟨x01, x02, -⟩ := X0.out
    obtain ⟨w01, w02, -⟩ := W0.out
    go_wp2_with fail
    refine (EngineValid_b _ B2 d2 z true _ rfl LX.out.sg Hsh.out Hvz.out).mono ?_
    rintro e w10 ⟨rfl, b10⟩
    clear x01 x02 w01 w02
    have X0 := hd (X0.out.below b10)
    have W0 := hd (W0.out.below b10)
    have LP := hd (LP.out.below b10)
    have LX := hd (LX.out.below b10)
    have LW := hd (LW.out.below b10)
    have LQ := hd (LQ.out.below b10)
    have LS := hd (LS.out.below b10)
    have k10 := k9.trans (b10.mono k9.size)
    clear b10
    obtain ⟨x01, x02, -⟩ := X0.out
    obtain ⟨w01, w02, -⟩ := W0.out
    have hzl := Hzl.out
    go_wp2
    go_ret
    exact ⟨rfl, k10⟩

end Go.Proofs.Ytkmblobfamhoiaa
