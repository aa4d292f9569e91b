/- The walk of the law RunHalves: the law returns true, whatever the input. -/
import Derived.Test.YtkmblobfamhoiaaLwQ
import Derived.Test.YtkmblobfamhoiaaDrawP
import Derived.Deep.RegionHeld3
namespace Go.Proofs.Ytkmblobfamhoiaa
open Go.RowKit
set_option maxRecDepth 4000

theorem RunHalves_big (A : Option Addr) (c n : Nat) (w : World) (h1 : 1048576 < n) (h2 : n ≤ 9223372036854775807) :
    Calls Try.prog 10 #[.slice A n c] w fun e w' => e = .returned (.bool true) ∧ Below w.heap.size w w' := by
  have hbig' : (1048576 : Int) < n := by omega
  go_enter Try.func10, Try.ntmps10
  go_wp2
  go_ret
  exact ⟨rfl, Below.refl _ _⟩

set_option maxHeartbeats 8000000 in
theorem RunHalves_walk (A : Option Addr) (c : Nat) (zs : List Int) (w : World) (h : SR w A (zs.map (Value.int .u8))) (hbig : zs.length ≤ 1048576) (hcap : zs.length ≤ c) (hx : ∀ x ∈ zs, 0 ≤ x ∧ x ≤ 255) :
    Calls Try.prog 10 #[.slice A zs.length c] w fun e w' => e = .returned (.bool true) ∧ Below w.heap.size w w' := by
  have H := hd h
  have Hx := hd hx
  have hbig' : ¬ (1048576 : Int) < zs.length := by omega
  clear h hx
  go_enter Try.func10, Try.ntmps10
  go_wp2_with fail
  refine (DrawRunHalves_any A c zs _ H.out hcap Hx.out).mono ?_
  rintro e w1 ⟨Ae, ce, cs, v, rfl, ⟨hl8, hsz⟩, own1, k1, hv64⟩
  have Hsh := hd (hsz.short (by decide))
  have LE := hd own1
  clear hsz own1
  have E0 := hd (Cl.new w1 (.slice Ae cs.length ce) 36)
  have LE := hd (LE.out.alloc (.cells #[.slice Ae cs.length ce] 36))
  have k1 := k1.alloc k1.size (.cells #[.slice Ae cs.length ce] 36)
  obtain ⟨e01, e02, -⟩ := E0.out
  cases hm : runF halvesV v cs with
  | none =>
    obtain ⟨z, hz0⟩ : ∃ z : List Int, z = [] := ⟨_, rfl⟩
    have Hz : Hid ((runF halvesV v cs).getD [] = z ∧ (runF halvesV v cs).isSome = false) := hd (by rw [hm, hz0]; exact ⟨rfl, rfl⟩)
    clear hz0 hm
    go_wp2_with fail
    refine (RunHalves_z v Ae ce _ cs z false _ rfl LE.out.sg Hsh.out Hz.out).mono ?_
    rintro e w2 ⟨B2, d2, rfl, own2, b2⟩
    clear e01 e02
    have E0 := hd (E0.out.below b2)
    have LE := hd (LE.out.below b2)
    have k2 := k1.trans (b2.mono k1.size)
    have LA := hd own2
    clear own2
    clear b2
    obtain ⟨e01, e02, -⟩ := E0.out
    go_wp2_with fail
    refine (sRunHalves_z v Ae ce _ cs z false _ rfl LE.out.sg Hsh.out Hz.out).mono ?_
    rintro e w3 ⟨B3, d3, rfl, own3, b3⟩
    clear e01 e02
    have E0 := hd (E0.out.below b3)
    have LE := hd (LE.out.below b3)
    have LA := hd (LA.out.below b3)
    have k3 := k2.trans (b3.mono k2.size)
    have LB := hd own3
    clear own3
    clear b3
    obtain ⟨e01, e02, -⟩ := E0.out
    go_wp2_with fail
    refine (deInts_v _ _ B2 B3 d2 d3 z _ rfl rfl LA.out.sg LB.out.sg).mono ?_
    rintro e w4 ⟨rfl, b4⟩
    clear e01 e02
    have E0 := hd (E0.out.below b4)
    have LE := hd (LE.out.below b4)
    have LA := hd (LA.out.below b4)
    have LB := hd (LB.out.below b4)
    have k4 := k3.trans (b4.mono k3.size)
    clear b4
    obtain ⟨e01, e02, -⟩ := E0.out
    go_wp2_with fail
    refine (deInts_v _ _ B2 B3 d2 d3 z _ rfl rfl LA.out.sg LB.out.sg).mono ?_
    rintro e w5 ⟨rfl, b5⟩
    clear e01 e02
    have E0 := hd (E0.out.below b5)
    have LE := hd (LE.out.below b5)
    have LA := hd (LA.out.below b5)
    have LB := hd (LB.out.below b5)
    have k5 := k4.trans (b5.mono k4.size)
    clear b5
    obtain ⟨e01, e02, -⟩ := E0.out
    go_wp2
    go_ret
    exact ⟨rfl, k5⟩
  | some z =>
    have Hz : Hid ((runF halvesV v cs).getD [] = z ∧ (runF halvesV v cs).isSome = true) := hd (by rw [hm]; exact ⟨rfl, rfl⟩)
    obtain ⟨hu, hru, hvu⟩ := run_unsk hm
    obtain ⟨u, hue⟩ : ∃ u, u = eng (hsz cs) (unskV (cvs cs)) := ⟨_, rfl⟩
    rw [← hue] at hu hru hvu
    have Hu : Hid ((turnF unskV cs).getD [] = u ∧ (turnF unskV cs).isSome = true) := hd (by rw [hu]; exact ⟨rfl, rfl⟩)
    have Hr : Hid ((runF (manyV · 1) v u).getD [] = z ∧ (runF (manyV · 1) v u).isSome = true) := hd (by rw [hru]; exact ⟨rfl, rfl⟩)
    have Hshu := hd (eng_short' hvu)
    clear hm hu hru hvu hue
    go_wp2_with fail
    refine (RunHalves_z v Ae ce _ cs z true _ rfl LE.out.sg Hsh.out Hz.out).mono ?_
    rintro e w2 ⟨B2, d2, rfl, own2, b2⟩
    clear e01 e02
    have E0 := hd (E0.out.below b2)
    have LE := hd (LE.out.below b2)
    have k2 := k1.trans (b2.mono k1.size)
    have LA := hd own2
    clear own2
    clear b2
    obtain ⟨e01, e02, -⟩ := E0.out
    go_wp2_with fail
    refine (sRunHalves_z v Ae ce _ cs z true _ rfl LE.out.sg Hsh.out Hz.out).mono ?_
    rintro e w3 ⟨B3, d3, rfl, own3, b3⟩
    clear e01 e02
    have E0 := hd (E0.out.below b3)
    have LE := hd (LE.out.below b3)
    have LA := hd (LA.out.below b3)
    have k3 := k2.trans (b3.mono k2.size)
    have LB := hd own3
    clear own3
    clear b3
    obtain ⟨e01, e02, -⟩ := E0.out
    go_wp2_with fail
    refine (deInts_v _ _ B2 B3 d2 d3 z _ rfl rfl LA.out.sg LB.out.sg).mono ?_
    rintro e w4 ⟨rfl, b4⟩
    clear e01 e02
    have E0 := hd (E0.out.below b4)
    have LE := hd (LE.out.below b4)
    have LA := hd (LA.out.below b4)
    have LB := hd (LB.out.below b4)
    have k4 := k3.trans (b4.mono k3.size)
    clear b4
    obtain ⟨e01, e02, -⟩ := E0.out
    go_wp2_with fail
    refine (UnskewEngine_z Ae ce _ cs u true _ rfl LE.out.sg Hsh.out Hu.out).mono ?_
    rintro e w5 ⟨B5, d5, rfl, own5, b5⟩
    clear e01 e02
    have E0 := hd (E0.out.below b5)
    have LE := hd (LE.out.below b5)
    have LA := hd (LA.out.below b5)
    have LB := hd (LB.out.below b5)
    have k5 := k4.trans (b5.mono k4.size)
    have LU := hd own5
    clear own5
    clear b5
    obtain ⟨e01, e02, -⟩ := E0.out
    clear e01 e02
    have U0 := hd (Cl.new w5 (.slice B5 u.length d5) 36)
    have E0 := hd (E0.out.alloc (.cells #[.slice B5 u.length d5] 36))
    have LE := hd (LE.out.alloc (.cells #[.slice B5 u.length d5] 36))
    have LA := hd (LA.out.alloc (.cells #[.slice B5 u.length d5] 36))
    have LB := hd (LB.out.alloc (.cells #[.slice B5 u.length d5] 36))
    have LU := hd (LU.out.alloc (.cells #[.slice B5 u.length d5] 36))
    have k5 := k5.alloc k5.size (.cells #[.slice B5 u.length d5] 36)
    obtain ⟨e01, e02, -⟩ := E0.out
    obtain ⟨u01, u02, -⟩ := U0.out
    go_wp2_with fail
    refine (RunEngine_z v B5 d5 _ u z true _ rfl LU.out.sg Hshu.out Hr.out).mono ?_
    rintro e w6 ⟨B6, d6, rfl, own6, b6⟩
    clear e01 e02 u01 u02
    have E0 := hd (E0.out.below b6)
    have U0 := hd (U0.out.below b6)
    have LE := hd (LE.out.below b6)
    have LA := hd (LA.out.below b6)
    have LB := hd (LB.out.below b6)
    have LU := hd (LU.out.below b6)
    have k6 := k5.trans (b6.mono k5.size)
    have LC := hd own6
    clear own6
    clear b6
    obtain ⟨e01, e02, -⟩ := E0.out
    obtain ⟨u01, u02, -⟩ := U0.out
    go_wp2_with fail
    refine (deInts_v _ _ B6 B2 d6 d2 z _ rfl rfl LC.out.sg LA.out.sg).mono ?_
    rintro e w7 ⟨rfl, b7⟩
    clear e01 e02 u01 u02
    have E0 := hd (E0.out.below b7)
    have U0 := hd (U0.out.below b7)
    have LE := hd (LE.out.below b7)
    have LA := hd (LA.out.below b7)
    have LB := hd (LB.out.below b7)
    have LU := hd (LU.out.below b7)
    have LC := hd (LC.out.below b7)
    have k7 := k6.trans (b7.mono k6.size)
    clear b7
    obtain ⟨e01, e02, -⟩ := E0.out
    obtain ⟨u01, u02, -⟩ := U0.out
    go_wp2
    go_ret
    exact ⟨rfl, k7⟩

end Go.Proofs.Ytkmblobfamhoiaa
