/- The walk of the law ReadSetUp: the law returns true, whatever the input. -/
import Derived.Test.YtkmblobfamhoiaaLwP
import Derived.Test.YtkmblobfamhoiaaDrawQ
import Derived.Deep.RegionHeld3
namespace Go.Proofs.Ytkmblobfamhoiaa
open Go.RowKit
set_option maxRecDepth 4000

theorem ReadSetUp_big (A : Option Addr) (c n : Nat) (w : World) (h1 : 1048576 < n) (h2 : n ≤ 9223372036854775807) :
    Calls Try.prog 14 #[.slice A n c] w fun e w' => e = .returned (.bool true) ∧ Below w.heap.size w w' := by
  have hbig' : (1048576 : Int) < n := by omega
  go_enter Try.func14, Try.ntmps14
  go_wp2
  go_ret
  exact ⟨rfl, Below.refl _ _⟩

set_option maxHeartbeats 8000000 in
theorem ReadSetUp_walk (A : Option Addr) (c : Nat) (zs : List Int) (w : World) (h : SR w A (zs.map (Value.int .u8))) (hbig : zs.length ≤ 1048576) (hcap : zs.length ≤ c) (hx : ∀ x ∈ zs, 0 ≤ x ∧ x ≤ 255) :
    Calls Try.prog 14 #[.slice A zs.length c] w fun e w' => e = .returned (.bool true) ∧ Below w.heap.size w w' := by
  have H := hd h
  have Hx := hd hx
  have hbig' : ¬ (1048576 : Int) < zs.length := by omega
  clear h hx
  go_enter Try.func14, Try.ntmps14
  go_wp2_with fail
  refine (DrawReadEngine_any A c zs _ H.out hcap Hx.out).mono ?_
  rintro e w1 ⟨Ae, ce, cs, rfl, ⟨hl8, hsz⟩, own1, k1⟩
  have Hsh := hd (hsz.short (by decide))
  have LE := hd own1
  clear hsz own1
  have E0 := hd (Cl.new w1 (.slice Ae cs.length ce) 36)
  have LE := hd (LE.out.alloc (.cells #[.slice Ae cs.length ce] 36))
  have k1 := k1.alloc k1.size (.cells #[.slice Ae cs.length ce] 36)
  obtain ⟨e01, e02, -⟩ := E0.out
  cases hm : readF cs with
  | none =>
    obtain ⟨z, hz0⟩ : ∃ z : List Int, z = [] := ⟨_, rfl⟩
    have Hz : Hid ((readF cs).getD [] = z ∧ (readF cs).isSome = false) := hd (by rw [hm, hz0]; exact ⟨rfl, rfl⟩)
    clear hz0 hm
    go_wp2_with fail
    refine (ReadEngine_z Ae ce _ cs z false _ rfl LE.out.sg Hsh.out Hz.out).mono ?_
    rintro e w2 ⟨B2, d2, rfl, own2, b2⟩
    clear e01 e02
    have E0 := hd (E0.out.below b2)
    have LE := hd (LE.out.below b2)
    have k2 := k1.trans (b2.mono k1.size)
    have LA := hd own2
    clear own2
    clear b2
    obtain ⟨e01, e02, -⟩ := E0.out
    go_wp2_with fail
    refine (sReadEngine_z Ae ce _ cs z false _ rfl LE.out.sg Hsh.out Hz.out).mono ?_
    rintro e w3 ⟨B3, d3, rfl, own3, b3⟩
    clear e01 e02
    have E0 := hd (E0.out.below b3)
    have LE := hd (LE.out.below b3)
    have LA := hd (LA.out.below b3)
    have k3 := k2.trans (b3.mono k2.size)
    have LB := hd own3
    clear own3
    clear b3
    obtain ⟨e01, e02, -⟩ := E0.out
    go_wp2_with fail
    refine (deInts_v _ _ B2 B3 d2 d3 z _ rfl rfl LA.out.sg LB.out.sg).mono ?_
    rintro e w4 ⟨rfl, b4⟩
    clear e01 e02
    have E0 := hd (E0.out.below b4)
    have LE := hd (LE.out.below b4)
    have LA := hd (LA.out.below b4)
    have LB := hd (LB.out.below b4)
    have k4 := k3.trans (b4.mono k3.size)
    clear b4
    obtain ⟨e01, e02, -⟩ := E0.out
    go_wp2_with fail
    refine (deInts_v _ _ B2 B3 d2 d3 z _ rfl rfl LA.out.sg LB.out.sg).mono ?_
    rintro e w5 ⟨rfl, b5⟩
    clear e01 e02
    have E0 := hd (E0.out.below b5)
    have LE := hd (LE.out.below b5)
    have LA := hd (LA.out.below b5)
    have LB := hd (LB.out.below b5)
    have k5 := k4.trans (b5.mono k4.size)
    clear b5
    obtain ⟨e01, e02, -⟩ := E0.out
    go_wp2
    go_ret
    exact ⟨rfl, k5⟩
  | some z =>
    have Hz : Hid ((readF cs).getD [] = z ∧ (readF cs).isSome = true) := hd (by rw [hm]; exact ⟨rfl, rfl⟩)
    obtain ⟨hv, hset⟩ := read_set hm
    obtain ⟨hee, hW1, hW12, hn1, hn7⟩ := engV_vals hv
    have hcl : (cvs cs).length = cs.length := by simp [cvs]
    rw [hcl] at hn1 hn7
    obtain ⟨s0, hs0⟩ : ∃ s0, cs[0]? = some s0 := ⟨cs[0], List.getElem?_eq_getElem (by omega)⟩
    have hss : s0.size = hsz cs := by rw [hsz]; cases cs with | nil => simp at hs0 | cons a r => simp at hs0; rw [hs0]; rfl
    obtain ⟨bE, oE, hbE, -⟩ := LE.out.sg.nonempty (by omega)
    have Hb : Hid ((setF z 0 (s0.size : Int)).getD [] = cs ∧ (setF z 0 (s0.size : Int)).isSome = true) := hd (by rw [hss, hset]; exact ⟨rfl, rfl⟩)
    have Hs0 := hd hs0
    have E0u := hd E0.out
    have LEu := hd LE.out
    have k1u := k1
    clear hset hee hW1 hW12 hn7 hcl hs0 hss hm hv
    clear e01 e02
    subst hbE
    have E0 := hd E0u.out
    have LE := hd LEu.out
    have k1 := k1u
    clear E0u LEu k1u
    obtain ⟨e01, e02, -⟩ := E0.out
    have e0 : (0 : Int) < cs.length := by omega
    have e00 : 0 < cs.length := hn1
    go_wp2_with fail
    refine (ReadEngine_z (some ⟨bE, oE, none⟩) ce _ cs z true _ rfl LE.out.sg Hsh.out Hz.out).mono ?_
    rintro e w2 ⟨B2, d2, rfl, own2, b2⟩
    clear e01 e02
    have E0 := hd (E0.out.below b2)
    have LE := hd (LE.out.below b2)
    have k2 := k1.trans (b2.mono k1.size)
    have LA := hd own2
    clear own2
    clear b2
    obtain ⟨e01, e02, -⟩ := E0.out
    go_wp2_with fail
    refine (sReadEngine_z (some ⟨bE, oE, none⟩) ce _ cs z true _ rfl LE.out.sg Hsh.out Hz.out).mono ?_
    rintro e w3 ⟨B3, d3, rfl, own3, b3⟩
    clear e01 e02
    have E0 := hd (E0.out.below b3)
    have LE := hd (LE.out.below b3)
    have LA := hd (LA.out.below b3)
    have k3 := k2.trans (b3.mono k2.size)
    have LB := hd own3
    clear own3
    clear b3
    obtain ⟨e01, e02, -⟩ := E0.out
    go_wp2_with fail
    refine (deInts_v _ _ B2 B3 d2 d3 z _ rfl rfl LA.out.sg LB.out.sg).mono ?_
    rintro e w4 ⟨rfl, b4⟩
    clear e01 e02
    have E0 := hd (E0.out.below b4)
    have LE := hd (LE.out.below b4)
    have LA := hd (LA.out.below b4)
    have LB := hd (LB.out.below b4)
    have k4 := k3.trans (b4.mono k3.size)
    clear b4
    obtain ⟨e01, e02, -⟩ := E0.out
    have hcE := (LE.out.sg.cellK Hs0.out).1
    rw [Nat.add_zero] at hcE
    go_wp2_with fail
    refine (SetUp_z 0 (s0.size : Int) B2 d2 _ z cs true _ rfl LA.out.sg LA.out.cap Hb.out).mono ?_
    rintro e w5 ⟨B5, d5, rfl, own5, b5⟩
    clear e01 e02
    have E0 := hd (E0.out.below b5)
    have LE := hd (LE.out.below b5)
    have LA := hd (LA.out.below b5)
    have LB := hd (LB.out.below b5)
    have k5 := k4.trans (b5.mono k4.size)
    have LY := hd own5
    clear own5
    clear b5
    obtain ⟨e01, e02, -⟩ := E0.out
    clear e01 e02
    have Y0 := hd (Cl.new w5 (.slice B5 cs.length d5) 36)
    have E0 := hd (E0.out.alloc (.cells #[.slice B5 cs.length d5] 36))
    have LE := hd (LE.out.alloc (.cells #[.slice B5 cs.length d5] 36))
    have LA := hd (LA.out.alloc (.cells #[.slice B5 cs.length d5] 36))
    have LB := hd (LB.out.alloc (.cells #[.slice B5 cs.length d5] 36))
    have LY := hd (LY.out.alloc (.cells #[.slice B5 cs.length d5] 36))
    have k5 := k5.alloc k5.size (.cells #[.slice B5 cs.length d5] 36)
    obtain ⟨e01, e02, -⟩ := E0.out
    obtain ⟨y01, y02, -⟩ := Y0.out
    clear hcE
    go_wp2_with fail
    refine (deSame_same _ B5 (some ⟨bE, oE, none⟩) d5 ce cs _ rfl LY.out.sg LE.out.sg).mono ?_
    rintro e w6 ⟨rfl, b6⟩
    clear e01 e02 y01 y02
    have E0 := hd (E0.out.below b6)
    have Y0 := hd (Y0.out.below b6)
    have LE := hd (LE.out.below b6)
    have LA := hd (LA.out.below b6)
    have LB := hd (LB.out.below b6)
    have LY := hd (LY.out.below b6)
    have k6 := k5.trans (b6.mono k5.size)
    clear b6
    obtain ⟨e01, e02, -⟩ := E0.out
    obtain ⟨y01, y02, -⟩ := Y0.out
    go_wp2
    go_ret
    exact ⟨rfl, k6⟩

end Go.Proofs.Ytkmblobfamhoiaa
