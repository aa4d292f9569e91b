/- The walk of the law TurnSum: the law returns true, whatever the input. -/
import Derived.Test.YtkmblobfamhoiaaLwP
import Derived.Test.YtkmblobfamhoiaaSpeW
import Derived.Test.YtkmblobfamhoiaaGrI
import Derived.Deep.RegionHeld3
namespace Go.Proofs.Ytkmblobfamhoiaa
open Go.RowKit
set_option maxRecDepth 4000

theorem tmz_r (N NI : Int) (A : Option Addr) (c n : Nat) (cs z : List ByteArray) (ok : Bool) (w : World) (hN : NI = N) (hn : cs.length = n) (h : SS w A cs) (hs : Short cs) (hz : (manyF N cs).getD [] = z ∧ (manyF N cs).isSome = ok) :
    Calls Try.prog 38 #[.agg #[.slice A n c], .int .i64 NI] w fun e w' => RetEB 9 w.heap.size w z ok e w' := by
  obtain ⟨rfl, rfl⟩ := hz
  subst hN
  exact TurnMany_any A c n cs NI w hn h hs
theorem stmz_r (N NI : Int) (A : Option Addr) (c n : Nat) (cs z : List ByteArray) (ok : Bool) (w : World) (hN : NI = N) (hn : cs.length = n) (h : SS w A cs) (hs : Short cs) (hz : (manyF N cs).getD [] = z ∧ (manyF N cs).isSome = ok) :
    Calls Try.prog 39 #[.agg #[.slice A n c], .int .i64 NI] w fun e w' => RetEB 9 w.heap.size w z ok e w' := by
  obtain ⟨rfl, rfl⟩ := hz
  subst hN
  exact sTurnMany_any A c n cs NI w hn h hs
theorem Binomial_c (N C : Int) (k : Nat) (w : World) (h1 : -40 ≤ N) (h2 : N ≤ 40) (hk : k ≤ 6) (hC : chs N k = C) :
    Calls Try.prog 41 #[.int .i64 N, .int .i64 k] w fun e w' => e = .returned (.tuple #[.int .i64 C, .bool true]) ∧ Below w.heap.size w w' := by
  subst hC
  have hi : inB N 200 = true := by simp [inB]; omega
  have Hi := hd hi
  clear hi
  have e1 : ¬ (k : Int) < 0 := by omega
  have e2 : ¬ (6 : Int) < k := by omega
  go_enter Try.func41, Try.ntmps41
  go_wp2_with fail
  refine (within_any N 200 _ (by decide) (by decide)).mono ?_
  rintro e w' ⟨rfl, rfl⟩
  rw [Hi.out]
  go_wp2_with fail
  refine (choose_any N k _ (by omega) (by omega) hk).mono ?_
  rintro e w' ⟨rfl, rfl⟩
  go_wp2
  go_ret2
  exact ⟨rfl, Below.refl _ _⟩
theorem int_eq {a b : Int} (h : a = b) : Value.int .i64 a = .int .i64 b := by rw [h]

/-- The innermost loop: what is left to be added. -/
def AddR (wb : World) (W : Nat) (T : Int) (s c p : Value) (wr : World) : Prop :=
  ∃ (S P : Int) (C : Nat), s = .string (showC W S) ∧ p = .string (showC W P) ∧ c = .int .i64 C ∧ C ≤ 2000000000000 ∧ S + P * C = T ∧ Below wb.heap.size wb wr

theorem TurnSum_big (A : Option Addr) (c n : Nat) (w : World) (h1 : 1048576 < n) (h2 : n ≤ 9223372036854775807) :
    Calls Try.prog 7 #[.slice A n c] w fun e w' => e = .returned (.bool true) ∧ Below w.heap.size w w' := by
  have hbig' : (1048576 : Int) < n := by omega
  go_enter Try.func7, Try.ntmps7
  go_wp2
  go_ret
  exact ⟨rfl, Below.refl _ _⟩

set_option maxHeartbeats 8000000 in
theorem TurnSum_walk (A : Option Addr) (c : Nat) (zs : List Int) (w : World) (h : SR w A (zs.map (Value.int .u8))) (hbig : zs.length ≤ 1048576) (hcap : zs.length ≤ c) (hx : ∀ x ∈ zs, 0 ≤ x ∧ x ≤ 255) :
    Calls Try.prog 7 #[.slice A zs.length c] w fun e w' => e = .returned (.bool true) ∧ Below w.heap.size w w' := by
  have H := hd h
  have Hx := hd hx
  have hbig' : ¬ (1048576 : Int) < zs.length := by omega
  clear h hx
  go_enter Try.func7, Try.ntmps7
  go_wp2_with fail
  refine (DrawTurnMany_any A c zs _ H.out hcap Hx.out).mono ?_
  rintro e w1 ⟨Ae, ce, cs, v, rfl, ⟨hl8, hsz⟩, own1, k1, hv64⟩
  have Hsh := hd (hsz.short (by decide))
  have LE := hd own1
  clear hsz own1
  have E0 := hd (Cl.new w1 (.slice Ae cs.length ce) 36)
  have LE := hd (LE.out.alloc (.cells #[.slice Ae cs.length ce] 36))
  have k1 := k1.alloc k1.size (.cells #[.slice Ae cs.length ce] 36)
  obtain ⟨e01, e02, -⟩ := E0.out
  cases hm : manyF v cs with
  | none =>
    obtain ⟨z, hz0⟩ : ∃ z : List ByteArray, z = [] := ⟨_, rfl⟩
    have Hz : Hid ((manyF v cs).getD [] = z ∧ (manyF v cs).isSome = false) := hd (by rw [hm, hz0]; exact ⟨rfl, rfl⟩)
    clear hz0 hm
    go_wp2_with fail
    refine (tmz_r v _ Ae ce _ cs z false _ (by first | rfl | omega) rfl LE.out.sg Hsh.out Hz.out).mono ?_
    rintro e w2 ⟨B2, d2, rfl, own2, b2⟩
    clear e01 e02
    have E0 := hd (E0.out.below b2)
    have LE := hd (LE.out.below b2)
    have k2 := k1.trans (b2.mono k1.size)
    have LX := hd own2
    clear own2
    clear b2
    obtain ⟨e01, e02, -⟩ := E0.out
    clear e01 e02
    have X0 := hd (Cl.new w2 (.slice B2 z.length d2) 36)
    have E0 := hd (E0.out.alloc (.cells #[.slice B2 z.length d2] 36))
    have LE := hd (LE.out.alloc (.cells #[.slice B2 z.length d2] 36))
    have LX := hd (LX.out.alloc (.cells #[.slice B2 z.length d2] 36))
    have k2 := k2.alloc k2.size (.cells #[.slice B2 z.length d2] 36)
    obtain ⟨e01, e02, -⟩ := E0.out
    obtain ⟨x01, x02, -⟩ := X0.out
    go_wp2_with fail
    refine (stmz_r v _ Ae ce _ cs z false _ (by first | rfl | omega) rfl LE.out.sg Hsh.out Hz.out).mono ?_
    rintro e w3 ⟨B3, d3, rfl, own3, b3⟩
    clear e01 e02 x01 x02
    have E0 := hd (E0.out.below b3)
    have X0 := hd (X0.out.below b3)
    have LE := hd (LE.out.below b3)
    have LX := hd (LX.out.below b3)
    have k3 := k2.trans (b3.mono k2.size)
    have LW := hd own3
    clear own3
    clear b3
    obtain ⟨e01, e02, -⟩ := E0.out
    obtain ⟨x01, x02, -⟩ := X0.out
    clear e01 e02 x01 x02
    have W0 := hd (Cl.new w3 (.slice B3 z.length d3) 36)
    have E0 := hd (E0.out.alloc (.cells #[.slice B3 z.length d3] 36))
    have X0 := hd (X0.out.alloc (.cells #[.slice B3 z.length d3] 36))
    have LE := hd (LE.out.alloc (.cells #[.slice B3 z.length d3] 36))
    have LX := hd (LX.out.alloc (.cells #[.slice B3 z.length d3] 36))
    have LW := hd (LW.out.alloc (.cells #[.slice B3 z.length d3] 36))
    have k3 := k3.alloc k3.size (.cells #[.slice B3 z.length d3] 36)
    obtain ⟨e01, e02, -⟩ := E0.out
    obtain ⟨x01, x02, -⟩ := X0.out
    obtain ⟨w01, w02, -⟩ := W0.out
    go_wp2_with fail
    refine (deSame_same _ B2 B3 d2 d3 z _ rfl LX.out.sg LW.out.sg).mono ?_
    rintro e w4 ⟨rfl, b4⟩
    clear e01 e02 x01 x02 w01 w02
    have E0 := hd (E0.out.below b4)
    have X0 := hd (X0.out.below b4)
    have W0 := hd (W0.out.below b4)
    have LE := hd (LE.out.below b4)
    have LX := hd (LX.out.below b4)
    have LW := hd (LW.out.below b4)
    have k4 := k3.trans (b4.mono k3.size)
    clear b4
    obtain ⟨e01, e02, -⟩ := E0.out
    obtain ⟨x01, x02, -⟩ := X0.out
    obtain ⟨w01, w02, -⟩ := W0.out
    go_wp2_with fail
    refine (deSame_same _ B2 B3 d2 d3 z _ rfl LX.out.sg LW.out.sg).mono ?_
    rintro e w5 ⟨rfl, b5⟩
    clear e01 e02 x01 x02 w01 w02
    have E0 := hd (E0.out.below b5)
    have X0 := hd (X0.out.below b5)
    have W0 := hd (W0.out.below b5)
    have LE := hd (LE.out.below b5)
    have LX := hd (LX.out.below b5)
    have LW := hd (LW.out.below b5)
    have k5 := k4.trans (b5.mono k4.size)
    clear b5
    obtain ⟨e01, e02, -⟩ := E0.out
    obtain ⟨x01, x02, -⟩ := X0.out
    obtain ⟨w01, w02, -⟩ := W0.out
    go_wp2
    go_ret
    exact ⟨rfl, k5⟩
  | some z =>
    have Hz : Hid ((manyF v cs).getD [] = z ∧ (manyF v cs).isSome = true) := hd (by rw [hm]; exact ⟨rfl, rfl⟩)
    have hi : inB v 300 = true := by cases hi : inB v 300 with | true => rfl | false => rw [manyF_out hi] at hm; cases hm
    have hv : engV cs = true := by cases hv : engV cs with | true => rfl | false => rw [manyF_inv hv] at hm; cases hm
    have hz0 : z = eng (hsz cs) (manyV (cvs cs) v) := by rw [manyF_some hv hi] at hm; injection hm with hm; exact hm.symm
    obtain ⟨hee, hW1, hW12, hn1, hn7⟩ := engV_vals hv
    obtain ⟨W, hW⟩ : ∃ W, W = hsz cs := ⟨_, rfl⟩
    obtain ⟨vs, hvs⟩ : ∃ vs, vs = cvs cs := ⟨_, rfl⟩
    have Hl : Hid (vs.length = cs.length) := hd (by rw [hvs]; simp [cvs])
    rw [← hW, ← hvs] at hee hz0
    rw [← hW] at hW1 hW12
    rw [← hvs] at hn1 hn7
    rw [Hl.out] at hn1 hn7
    have Hzl : Hid (z.length = cs.length) := hd (by rw [hz0, eng_length, manyV_length, Hl.out])
    have He := hd hee
    have Hz0 := hd hz0
    obtain ⟨bE, oE, hbE, -⟩ := LE.out.sg.nonempty (by omega)
    have E0u := hd E0.out
    have LEu := hd LE.out
    have k1u := k1
    clear hz0 hv hee hW hvs hm hi
    clear e01 e02
    subst hbE
    have E0 := hd E0u.out
    have LE := hd LEu.out
    have k1 := k1u
    clear E0u LEu k1u
    obtain ⟨e01, e02, -⟩ := E0.out
    have e0 : (0 : Int) < cs.length := by omega
    by_cases hlo : v < -40
    · have hlo2 := hlo
      go_wp2_with fail
      refine (tmz_r v _ (some ⟨bE, oE, none⟩) ce _ cs z true _ (by first | rfl | omega) rfl LE.out.sg Hsh.out Hz.out).mono ?_
      rintro e w2 ⟨B2, d2, rfl, own2, b2⟩
      clear e01 e02
      have E0 := hd (E0.out.below b2)
      have LE := hd (LE.out.below b2)
      have k2 := k1.trans (b2.mono k1.size)
      have LX := hd own2
      clear own2
      clear b2
      obtain ⟨e01, e02, -⟩ := E0.out
      clear e01 e02
      have X0 := hd (Cl.new w2 (.slice B2 z.length d2) 36)
      have E0 := hd (E0.out.alloc (.cells #[.slice B2 z.length d2] 36))
      have LE := hd (LE.out.alloc (.cells #[.slice B2 z.length d2] 36))
      have LX := hd (LX.out.alloc (.cells #[.slice B2 z.length d2] 36))
      have k2 := k2.alloc k2.size (.cells #[.slice B2 z.length d2] 36)
      obtain ⟨e01, e02, -⟩ := E0.out
      obtain ⟨x01, x02, -⟩ := X0.out
      go_wp2_with fail
      refine (stmz_r v _ (some ⟨bE, oE, none⟩) ce _ cs z true _ (by first | rfl | omega) rfl LE.out.sg Hsh.out Hz.out).mono ?_
      rintro e w3 ⟨B3, d3, rfl, own3, b3⟩
      clear e01 e02 x01 x02
      have E0 := hd (E0.out.below b3)
      have X0 := hd (X0.out.below b3)
      have LE := hd (LE.out.below b3)
      have LX := hd (LX.out.below b3)
      have k3 := k2.trans (b3.mono k2.size)
      have LW := hd own3
      clear own3
      clear b3
      obtain ⟨e01, e02, -⟩ := E0.out
      obtain ⟨x01, x02, -⟩ := X0.out
      clear e01 e02 x01 x02
      have W0 := hd (Cl.new w3 (.slice B3 z.length d3) 36)
      have E0 := hd (E0.out.alloc (.cells #[.slice B3 z.length d3] 36))
      have X0 := hd (X0.out.alloc (.cells #[.slice B3 z.length d3] 36))
      have LE := hd (LE.out.alloc (.cells #[.slice B3 z.length d3] 36))
      have LX := hd (LX.out.alloc (.cells #[.slice B3 z.length d3] 36))
      have LW := hd (LW.out.alloc (.cells #[.slice B3 z.length d3] 36))
      have k3 := k3.alloc k3.size (.cells #[.slice B3 z.length d3] 36)
      obtain ⟨e01, e02, -⟩ := E0.out
      obtain ⟨x01, x02, -⟩ := X0.out
      obtain ⟨w01, w02, -⟩ := W0.out
      go_wp2_with fail
      refine (deSame_same _ B2 B3 d2 d3 z _ rfl LX.out.sg LW.out.sg).mono ?_
      rintro e w4 ⟨rfl, b4⟩
      clear e01 e02 x01 x02 w01 w02
      have E0 := hd (E0.out.below b4)
      have X0 := hd (X0.out.below b4)
      have W0 := hd (W0.out.below b4)
      have LE := hd (LE.out.below b4)
      have LX := hd (LX.out.below b4)
      have LW := hd (LW.out.below b4)
      have k4 := k3.trans (b4.mono k3.size)
      clear b4
      obtain ⟨e01, e02, -⟩ := E0.out
      obtain ⟨x01, x02, -⟩ := X0.out
      obtain ⟨w01, w02, -⟩ := W0.out
      go_wp2_with fail
      refine (deSame_same _ B2 B3 d2 d3 z _ rfl LX.out.sg LW.out.sg).mono ?_
      rintro e w5 ⟨rfl, b5⟩
      clear e01 e02 x01 x02 w01 w02
      have E0 := hd (E0.out.below b5)
      have X0 := hd (X0.out.below b5)
      have W0 := hd (W0.out.below b5)
      have LE := hd (LE.out.below b5)
      have LX := hd (LX.out.below b5)
      have LW := hd (LW.out.below b5)
      have k5 := k4.trans (b5.mono k4.size)
      clear b5
      obtain ⟨e01, e02, -⟩ := E0.out
      obtain ⟨x01, x02, -⟩ := X0.out
      obtain ⟨w01, w02, -⟩ := W0.out
      go_wp2
      go_ret
      exact ⟨rfl, k5⟩
    by_cases hhi : 40 < v
    · have hhi2 := hhi
      go_wp2_with fail
      refine (tmz_r v _ (some ⟨bE, oE, none⟩) ce _ cs z true _ (by first | rfl | omega) rfl LE.out.sg Hsh.out Hz.out).mono ?_
      rintro e w2 ⟨B2, d2, rfl, own2, b2⟩
      clear e01 e02
      have E0 := hd (E0.out.below b2)
      have LE := hd (LE.out.below b2)
      have k2 := k1.trans (b2.mono k1.size)
      have LX := hd own2
      clear own2
      clear b2
      obtain ⟨e01, e02, -⟩ := E0.out
      clear e01 e02
      have X0 := hd (Cl.new w2 (.slice B2 z.length d2) 36)
      have E0 := hd (E0.out.alloc (.cells #[.slice B2 z.length d2] 36))
      have LE := hd (LE.out.alloc (.cells #[.slice B2 z.length d2] 36))
      have LX := hd (LX.out.alloc (.cells #[.slice B2 z.length d2] 36))
      have k2 := k2.alloc k2.size (.cells #[.slice B2 z.length d2] 36)
      obtain ⟨e01, e02, -⟩ := E0.out
      obtain ⟨x01, x02, -⟩ := X0.out
      go_wp2_with fail
      refine (stmz_r v _ (some ⟨bE, oE, none⟩) ce _ cs z true _ (by first | rfl | omega) rfl LE.out.sg Hsh.out Hz.out).mono ?_
      rintro e w3 ⟨B3, d3, rfl, own3, b3⟩
      clear e01 e02 x01 x02
      have E0 := hd (E0.out.below b3)
      have X0 := hd (X0.out.below b3)
      have LE := hd (LE.out.below b3)
      have LX := hd (LX.out.below b3)
      have k3 := k2.trans (b3.mono k2.size)
      have LW := hd own3
      clear own3
      clear b3
      obtain ⟨e01, e02, -⟩ := E0.out
      obtain ⟨x01, x02, -⟩ := X0.out
      clear e01 e02 x01 x02
      have W0 := hd (Cl.new w3 (.slice B3 z.length d3) 36)
      have E0 := hd (E0.out.alloc (.cells #[.slice B3 z.length d3] 36))
      have X0 := hd (X0.out.alloc (.cells #[.slice B3 z.length d3] 36))
      have LE := hd (LE.out.alloc (.cells #[.slice B3 z.length d3] 36))
      have LX := hd (LX.out.alloc (.cells #[.slice B3 z.length d3] 36))
      have LW := hd (LW.out.alloc (.cells #[.slice B3 z.length d3] 36))
      have k3 := k3.alloc k3.size (.cells #[.slice B3 z.length d3] 36)
      obtain ⟨e01, e02, -⟩ := E0.out
      obtain ⟨x01, x02, -⟩ := X0.out
      obtain ⟨w01, w02, -⟩ := W0.out
      go_wp2_with fail
      refine (deSame_same _ B2 B3 d2 d3 z _ rfl LX.out.sg LW.out.sg).mono ?_
      rintro e w4 ⟨rfl, b4⟩
      clear e01 e02 x01 x02 w01 w02
      have E0 := hd (E0.out.below b4)
      have X0 := hd (X0.out.below b4)
      have W0 := hd (W0.out.below b4)
      have LE := hd (LE.out.below b4)
      have LX := hd (LX.out.below b4)
      have LW := hd (LW.out.below b4)
      have k4 := k3.trans (b4.mono k3.size)
      clear b4
      obtain ⟨e01, e02, -⟩ := E0.out
      obtain ⟨x01, x02, -⟩ := X0.out
      obtain ⟨w01, w02, -⟩ := W0.out
      go_wp2_with fail
      refine (deSame_same _ B2 B3 d2 d3 z _ rfl LX.out.sg LW.out.sg).mono ?_
      rintro e w5 ⟨rfl, b5⟩
      clear e01 e02 x01 x02 w01 w02
      have E0 := hd (E0.out.below b5)
      have X0 := hd (X0.out.below b5)
      have W0 := hd (W0.out.below b5)
      have LE := hd (LE.out.below b5)
      have LX := hd (LX.out.below b5)
      have LW := hd (LW.out.below b5)
      have k5 := k4.trans (b5.mono k4.size)
      clear b5
      obtain ⟨e01, e02, -⟩ := E0.out
      obtain ⟨x01, x02, -⟩ := X0.out
      obtain ⟨w01, w02, -⟩ := W0.out
      go_wp2
      go_ret
      exact ⟨rfl, k5⟩
    go_wp2_with fail
    refine (tmz_r v _ (some ⟨bE, oE, none⟩) ce _ cs z true _ (by first | rfl | omega) rfl LE.out.sg Hsh.out Hz.out).mono ?_
    rintro e w2 ⟨B2, d2, rfl, own2, b2⟩
    clear e01 e02
    have E0 := hd (E0.out.below b2)
    have LE := hd (LE.out.below b2)
    have k2 := k1.trans (b2.mono k1.size)
    have LX := hd own2
    clear own2
    clear b2
    obtain ⟨e01, e02, -⟩ := E0.out
    clear e01 e02
    have X0 := hd (Cl.new w2 (.slice B2 z.length d2) 36)
    have E0 := hd (E0.out.alloc (.cells #[.slice B2 z.length d2] 36))
    have LE := hd (LE.out.alloc (.cells #[.slice B2 z.length d2] 36))
    have LX := hd (LX.out.alloc (.cells #[.slice B2 z.length d2] 36))
    have k2 := k2.alloc k2.size (.cells #[.slice B2 z.length d2] 36)
    obtain ⟨e01, e02, -⟩ := E0.out
    obtain ⟨x01, x02, -⟩ := X0.out
    go_wp2_with fail
    refine (stmz_r v _ (some ⟨bE, oE, none⟩) ce _ cs z true _ (by first | rfl | omega) rfl LE.out.sg Hsh.out Hz.out).mono ?_
    rintro e w3 ⟨B3, d3, rfl, own3, b3⟩
    clear e01 e02 x01 x02
    have E0 := hd (E0.out.below b3)
    have X0 := hd (X0.out.below b3)
    have LE := hd (LE.out.below b3)
    have LX := hd (LX.out.below b3)
    have k3 := k2.trans (b3.mono k2.size)
    have LW := hd own3
    clear own3
    clear b3
    obtain ⟨e01, e02, -⟩ := E0.out
    obtain ⟨x01, x02, -⟩ := X0.out
    clear e01 e02 x01 x02
    have W0 := hd (Cl.new w3 (.slice B3 z.length d3) 36)
    have E0 := hd (E0.out.alloc (.cells #[.slice B3 z.length d3] 36))
    have X0 := hd (X0.out.alloc (.cells #[.slice B3 z.length d3] 36))
    have LE := hd (LE.out.alloc (.cells #[.slice B3 z.length d3] 36))
    have LX := hd (LX.out.alloc (.cells #[.slice B3 z.length d3] 36))
    have LW := hd (LW.out.alloc (.cells #[.slice B3 z.length d3] 36))
    have k3 := k3.alloc k3.size (.cells #[.slice B3 z.length d3] 36)
    obtain ⟨e01, e02, -⟩ := E0.out
    obtain ⟨x01, x02, -⟩ := X0.out
    obtain ⟨w01, w02, -⟩ := W0.out
    go_wp2_with fail
    refine (deSame_same _ B2 B3 d2 d3 z _ rfl LX.out.sg LW.out.sg).mono ?_
    rintro e w4 ⟨rfl, b4⟩
    clear e01 e02 x01 x02 w01 w02
    have E0 := hd (E0.out.below b4)
    have X0 := hd (X0.out.below b4)
    have W0 := hd (W0.out.below b4)
    have LE := hd (LE.out.below b4)
    have LX := hd (LX.out.below b4)
    have LW := hd (LW.out.below b4)
    have k4 := k3.trans (b4.mono k3.size)
    clear b4
    obtain ⟨e01, e02, -⟩ := E0.out
    obtain ⟨x01, x02, -⟩ := X0.out
    obtain ⟨w01, w02, -⟩ := W0.out
    clear w01 w02
    have Bk := hd k4
    obtain ⟨wk, hwk⟩ : ∃ x, x = w4 := ⟨_, rfl⟩
    have E0v := hd E0.out
    rw [← hwk] at E0v
    have X0v := hd X0.out
    rw [← hwk] at X0v
    have LEv := hd LE.out
    rw [← hwk] at LEv
    have LXv := hd LX.out
    rw [← hwk] at LXv
    have Bkv := hd Bk.out
    rw [← hwk] at Bkv
    go_wp2
    go_loopw [9] (fun i wr => ∃ k : Nat, k ≤ cs.length ∧ i = .int .i64 k ∧ Below wk.heap.size wk wr) (fun i _ => cs.length - (intOf i).toNat)
    case atStart => exact ⟨0, by omega, rfl, by rw [hwk]; exact Below.refl _ _⟩
    case round =>
      obtain ⟨i, hik, rfl, bw⟩ := hrel
      clear e01 e02 x01 x02
      clear hwk E0 X0 LE LX Bk
      have E0 := hd (E0v.out.below bw)
      have X0 := hd (X0v.out.below bw)
      have LE := hd (LEv.out.below bw)
      have LX := hd (LXv.out.below bw)
      have Bk := hd (Bkv.out.trans (bw.mono Bkv.out.size))
      have Bw := hd bw
      clear bw
      obtain ⟨e01, e02, -⟩ := E0.out
      obtain ⟨x01, x02, -⟩ := X0.out
      by_cases hlt : i < cs.length
      · have e1 : (i : Int) < cs.length := by omega
        have e2 : (0 : Int) ≤ i := by omega
        have hzl2 : i < z.length := by have := Hzl.out; omega
        have e8 : (i : Int) < z.length := by omega
        obtain ⟨a, Ha⟩ : ∃ a, Hid (vs[i]? = some a) := ⟨vs[i]'(by have := Hl.out; omega), hd (List.getElem?_eq_getElem _)⟩
        have Hea : Hid (cs[i]? = some (showC W a)) := hd (by have h2 := He.out; rw [h2]; exact eng_at Ha.out)
        have Hza : Hid (z[i]? = some (showC W (val (vs.drop i) v))) := hd (by rw [Hz0.out]; exact eng_at (manyV_at v (by have := Hl.out; omega)))
        obtain ⟨bX, oX, hbX, -⟩ := LX.out.sg.nonempty (by omega)
        have E0u := hd E0.out
        have X0u := hd X0.out
        have LEu := hd LE.out
        have LXu := hd LX.out
        have Bku := hd Bk.out
        have Bwu := hd Bw.out
        clear e01 e02 x01 x02
        clear E0 X0 LE LX Bk Bw
        subst hbX
        have E0 := hd E0u.out
        have X0 := hd X0u.out
        have LE := hd LEu.out
        have LX := hd LXu.out
        have Bk := hd Bku.out
        have Bw := hd Bwu.out
        clear E0u X0u LEu LXu Bku Bwu
        obtain ⟨e01, e02, -⟩ := E0.out
        obtain ⟨x01, x02, -⟩ := X0.out
        have hca := (LE.out.sg.cellK Hea.out).1
        have hcb := (LE.out.sg.cellK Hea.out).2
        go_wp2
        go_region_held3 (fun w' => w'.cell? ⟨w1.heap.size, 0, none⟩ = some (.slice (some ⟨bE, oE, none⟩) cs.length ce) ∧ w'.cell? ⟨bE, oE + i, none⟩ = some (.string (showC W a))) (first | exact ⟨e01, hca⟩ | go_keep) (first | (go_simp; go_at_call 40; refine (SubtractColumns_c W a a wr.drew hW1 hW12).mono ?_; rintro e w40 ⟨rfl, b40⟩; clear e01 e02 x01 x02; have E0 := hd (E0.out.drew.below b40); have X0 := hd (X0.out.drew.below b40); have LE := hd (LE.out.drew.below b40); have LX := hd (LX.out.drew.below b40); have Bk := hd (Bk.out.drew.trans (b40.mono Bk.out.size)); have Bw := hd (Bw.out.drew.trans (b40.mono Bw.out.size)); have hca := (LE.out.sg.cellK Hea.out).1; clear b40; obtain ⟨e01, e02, -⟩ := E0.out; obtain ⟨x01, x02, -⟩ := X0.out))
        clear hca hcb
        have E0m := hd E0.out
        have X0m := hd X0.out
        have LEm := hd LE.out
        have LXm := hd LX.out
        have Bkm := hd Bk.out
        have Bwm := hd Bw.out
        go_wp2
        go_loopw [10, 12] (fun s j wr => ∃ k : Nat, i + k ≤ cs.length ∧ j = .int .i64 k ∧ s = .string (showC W (tsum (vs.drop i) v k)) ∧ Below w40.heap.size w40 wr) (fun _ j _ => cs.length - (intOf j).toNat)
        case atStart => exact ⟨0, by omega, rfl, rfl, Below.refl _ _⟩
        case round =>
          obtain ⟨k, hkk, rfl, rfl, bw⟩ := hrel
          clear e01 e02 x01 x02
          clear E0 X0 LE LX Bk Bw
          have E0 := hd (E0m.out.below bw)
          have X0 := hd (X0m.out.below bw)
          have LE := hd (LEm.out.below bw)
          have LX := hd (LXm.out.below bw)
          have Bk := hd (Bkm.out.trans (bw.mono Bkm.out.size))
          have Bw := hd (Bwm.out.trans (bw.mono Bwm.out.size))
          have Bm := hd bw
          clear bw
          obtain ⟨e01, e02, -⟩ := E0.out
          obtain ⟨x01, x02, -⟩ := X0.out
          have ew : IntKind.i64.wrap ((i : Int) + (k : Int)) = (i : Int) + k := IntWalk.i64_in _ (by omega)
          have en : ((i : Int) + (k : Int)).toNat = i + k := by omega
          have e5 : (0 : Int) ≤ (i : Int) + k := by omega
          by_cases hlk : i + k < cs.length
          · have e6 : (i : Int) + k < cs.length := by omega
            have hk6 : k ≤ 6 := by omega
            obtain ⟨b, Hb⟩ : ∃ b, Hid (vs[i + k]? = some b) := ⟨vs[i + k]'(by have := Hl.out; omega), hd (List.getElem?_eq_getElem _)⟩
            have Heb : Hid (cs[i + k]? = some (showC W b)) := hd (by have h2 := He.out; rw [h2]; exact eng_at Hb.out)
            obtain ⟨C, HC⟩ : ∃ C, Hid (chs v k = C) := ⟨_, hd rfl⟩
            obtain ⟨S0, HS0⟩ : ∃ S0, Hid (tsum (vs.drop i) v k = S0) := ⟨_, hd rfl⟩
            rw [HS0.out]
            have hCb : -2000000000000 ≤ C ∧ C ≤ 2000000000000 := by have h1 := chs_bd v (by omega) (by omega) k hk6; have h2 := chB_le k hk6; rw [HC.out] at h1; omega
            obtain ⟨hCb1, hCb2⟩ := hCb
            have HT : Hid (tsum (vs.drop i) v (k + 1) = S0 + b * C) := hd (by rw [tsum, HS0.out, HC.out, getD_at (show (vs.drop i)[k]? = some b by rw [List.getElem?_drop]; exact Hb.out)])
            have hcb := (LE.out.sg.cellK Heb.out).1
            go_wp2_with fail
            refine (Binomial_c v C k _ (by omega) (by omega) hk6 HC.out).mono ?_
            rintro e w41 ⟨rfl, b41⟩
            clear e01 e02 x01 x02
            have E0 := hd (E0.out.below b41)
            have X0 := hd (X0.out.below b41)
            have LE := hd (LE.out.below b41)
            have LX := hd (LX.out.below b41)
            have Bk := hd (Bk.out.trans (b41.mono Bk.out.size))
            have Bw := hd (Bw.out.trans (b41.mono Bw.out.size))
            have Bm := hd (Bm.out.trans (b41.mono Bm.out.size))
            clear b41
            clear hcb
            have hcb := (LE.out.sg.cellK Heb.out).1
            obtain ⟨e01, e02, -⟩ := E0.out
            obtain ⟨x01, x02, -⟩ := X0.out
            by_cases hneg : C < 0
            · have g0 : IntKind.i64.wrap (-C) = -C := IntWalk.i64_in _ (by omega)
              obtain ⟨Cn, HCn⟩ : ∃ Cn : Nat, Hid (-C = Cn) := ⟨(-C).toNat, hd (by omega)⟩
              have HPT : Hid (S0 + (-b) * Cn = S0 + b * C) := hd (by rw [← HCn.out, Int.neg_mul_neg])
              go_wp2_with fail
              refine (NegateColumn_c W b _ hW1 hW12).mono ?_
              rintro e w42 ⟨rfl, b42⟩
              clear e01 e02 x01 x02
              have E0 := hd (E0.out.below b42)
              have X0 := hd (X0.out.below b42)
              have LE := hd (LE.out.below b42)
              have LX := hd (LX.out.below b42)
              have Bk := hd (Bk.out.trans (b42.mono Bk.out.size))
              have Bw := hd (Bw.out.trans (b42.mono Bw.out.size))
              have Bm := hd (Bm.out.trans (b42.mono Bm.out.size))
              clear b42
              clear hcb
              have hcb := (LE.out.sg.cellK Heb.out).1
              obtain ⟨e01, e02, -⟩ := E0.out
              obtain ⟨x01, x02, -⟩ := X0.out
              have E0n := hd E0.out
              have X0n := hd X0.out
              have LEn := hd LE.out
              have LXn := hd LX.out
              have Bkn := hd Bk.out
              have Bwn := hd Bw.out
              have Bmn := hd Bm.out
              go_wp2
              go_loopw [10, 13, 15] (fun s c p wr => AddR w42 W (S0 + b * C) s c p wr) (fun _ c _ _ => (intOf c).toNat)
              case atStart => exact ⟨S0, -b, Cn, rfl, rfl, int_eq (by have := HCn.out; omega), by have := HCn.out; omega, HPT.out, Below.refl _ _⟩
              case round =>
                obtain ⟨S, P, D, rfl, rfl, rfl, hD, hST, bw⟩ := hrel
                clear e01 e02 x01 x02
                clear E0 X0 LE LX Bk Bw Bm
                have HST := hd hST
                have Ba := hd bw
                clear hST bw hcb
                by_cases hD0 : 0 < D
                · have g1 : (0 : Int) < D := by omega
                  have g2 : IntKind.i64.wrap ((D : Int) / 2) = (D : Int) / 2 := IntWalk.i64_in _ (by omega)
                  by_cases hp : D % 2 = 1
                  · have g3 : (D : Int) % 2 = 1 := by omega
                    go_wp2_with fail
                    refine (AddColumns_c W S P _ hW1 hW12).mono ?_
                    rintro e w50 ⟨rfl, b50⟩
                    have Ba := hd (Ba.out.trans (b50.mono Ba.out.size))
                    clear b50
                    go_wp2_with fail
                    refine (AddColumns_c W P P _ hW1 hW12).mono ?_
                    rintro e w51 ⟨rfl, b51⟩
                    have Ba := hd (Ba.out.trans (b51.mono Ba.out.size))
                    clear b51
                    go_wp2
                    go_roundw
                    case rel => exact ⟨S + P, P + P, D / 2, rfl, rfl, int_eq (by omega), by omega, by rw [← HST.out, double_odd S P D (by omega)]; congr 1, Ba.out⟩
                    case measure => simp [intOf] <;> omega
                  · have g3 : (D : Int) % 2 = 0 := by omega
                    go_wp2_with fail
                    refine (AddColumns_c W P P _ hW1 hW12).mono ?_
                    rintro e w51 ⟨rfl, b51⟩
                    have Ba := hd (Ba.out.trans (b51.mono Ba.out.size))
                    clear b51
                    go_wp2
                    go_roundw
                    case rel => exact ⟨S, P + P, D / 2, rfl, rfl, int_eq (by omega), by omega, by rw [← HST.out, double_even S P D (by omega)]; congr 1, Ba.out⟩
                    case measure => simp [intOf] <;> omega
                · obtain rfl : D = 0 := by omega
                  have HSe : Hid (S = tsum (vs.drop i) v (k + 1)) := hd (by rw [HT.out, ← HST.out]; simp)
                  have Bm := hd (Bmn.out.trans (Ba.out.mono Bmn.out.size))
                  go_wp2
                  go_roundw
                  case rel => exact ⟨k + 1, by omega, by go_num, by rw [HSe.out], Bm.out⟩
                  case measure => simp [intOf] <;> omega
            · have g0 : ¬ C < 0 := hneg
              obtain ⟨Cn, HCn⟩ : ∃ Cn : Nat, Hid (C = Cn) := ⟨C.toNat, hd (by omega)⟩
              have HPT : Hid (S0 + b * Cn = S0 + b * C) := hd (by rw [← HCn.out])
              have E0n := hd E0.out
              have X0n := hd X0.out
              have LEn := hd LE.out
              have LXn := hd LX.out
              have Bkn := hd Bk.out
              have Bwn := hd Bw.out
              have Bmn := hd Bm.out
              go_wp2
              go_loopw [10, 13, 15] (fun s c p wr => AddR w41 W (S0 + b * C) s c p wr) (fun _ c _ _ => (intOf c).toNat)
              case atStart => exact ⟨S0, b, Cn, rfl, rfl, int_eq (by have := HCn.out; omega), by have := HCn.out; omega, HPT.out, Below.refl _ _⟩
              case round =>
                obtain ⟨S, P, D, rfl, rfl, rfl, hD, hST, bw⟩ := hrel
                clear e01 e02 x01 x02
                clear E0 X0 LE LX Bk Bw Bm
                have HST := hd hST
                have Ba := hd bw
                clear hST bw hcb
                by_cases hD0 : 0 < D
                · have g1 : (0 : Int) < D := by omega
                  have g2 : IntKind.i64.wrap ((D : Int) / 2) = (D : Int) / 2 := IntWalk.i64_in _ (by omega)
                  by_cases hp : D % 2 = 1
                  · have g3 : (D : Int) % 2 = 1 := by omega
                    go_wp2_with fail
                    refine (AddColumns_c W S P _ hW1 hW12).mono ?_
                    rintro e w50 ⟨rfl, b50⟩
                    have Ba := hd (Ba.out.trans (b50.mono Ba.out.size))
                    clear b50
                    go_wp2_with fail
                    refine (AddColumns_c W P P _ hW1 hW12).mono ?_
                    rintro e w51 ⟨rfl, b51⟩
                    have Ba := hd (Ba.out.trans (b51.mono Ba.out.size))
                    clear b51
                    go_wp2
                    go_roundw
                    case rel => exact ⟨S + P, P + P, D / 2, rfl, rfl, int_eq (by omega), by omega, by rw [← HST.out, double_odd S P D (by omega)]; congr 1, Ba.out⟩
                    case measure => simp [intOf] <;> omega
                  · have g3 : (D : Int) % 2 = 0 := by omega
                    go_wp2_with fail
                    refine (AddColumns_c W P P _ hW1 hW12).mono ?_
                    rintro e w51 ⟨rfl, b51⟩
                    have Ba := hd (Ba.out.trans (b51.mono Ba.out.size))
                    clear b51
                    go_wp2
                    go_roundw
                    case rel => exact ⟨S, P + P, D / 2, rfl, rfl, int_eq (by omega), by omega, by rw [← HST.out, double_even S P D (by omega)]; congr 1, Ba.out⟩
                    case measure => simp [intOf] <;> omega
                · obtain rfl : D = 0 := by omega
                  have HSe : Hid (S = tsum (vs.drop i) v (k + 1)) := hd (by rw [HT.out, ← HST.out]; simp)
                  have Bm := hd (Bmn.out.trans (Ba.out.mono Bmn.out.size))
                  go_wp2
                  go_roundw
                  case rel => exact ⟨k + 1, by omega, by go_num, by rw [HSe.out], Bm.out⟩
                  case measure => simp [intOf] <;> omega
          · have e6 : ¬ (i : Int) + k < cs.length := by omega
            have Hts : Hid (tsum (vs.drop i) v k = val (vs.drop i) v) := hd (by have h := tsum_all (vs.drop i) v; have h2 := Hl.out; rwa [List.length_drop, show vs.length - i = k by omega] at h)
            rw [Hts.out]
            have hcx := (LX.out.sg.cellK Hza.out).1
            go_wp2
            go_roundw
            case rel => exact ⟨i + 1, by omega, by go_num, Bw.out⟩
            case measure => simp [intOf] <;> omega
      · have hke : ¬ (i : Int) < cs.length := by omega
        go_wp2
        go_ret
        exact ⟨rfl, Bk.out⟩

end Go.Proofs.Ytkmblobfamhoiaa
