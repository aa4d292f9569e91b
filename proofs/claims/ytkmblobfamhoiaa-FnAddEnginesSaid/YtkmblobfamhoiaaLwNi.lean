/- The walk of the law AddEngines: the law returns true, whatever the input. -/
import Derived.Test.YtkmblobfamhoiaaLwP
import Derived.Test.YtkmblobfamhoiaaLwS
import Derived.Test.YtkmblobfamhoiaaLwL
import Derived.Test.YtkmblobfamhoiaaLwM
import Derived.Test.YtkmblobfamhoiaaEngK
import Derived.Test.YtkmblobfamhoiaaDrawR
import Derived.Deep.RegionHeld3
import Derived.Deep.DeepCutAuto
namespace Go.Proofs.Ytkmblobfamhoiaa
open Go.RowKit
set_option maxRecDepth 4000

theorem szA (w : World) (o : Obj) : (w.alloc o).heap.size = w.heap.size + 1 := by simp
theorem szD (w : World) : w.drew.heap.size = w.heap.size := rfl
theorem deTurned_w (A : Option Addr) (c n : Nat) (cs z : List ByteArray) (N NI : Int) (w : World) (hN : NI = N) (hn : cs.length = n) (h : SS w A cs) (hs : Short cs) (hz : manyF N cs = some z) :
    Calls Try.prog 35 #[.agg #[.slice A n c], .int .i64 NI] w fun e w' => RetE 9 w.heap.size w z e w' := deTurned_r A c n cs z N NI w hN hn h hs (by rw [hz]; rfl)
theorem deSkewed_w (A : Option Addr) (c n : Nat) (cs z : List ByteArray) (w : World) (hn : cs.length = n) (h : SS w A cs) (hs : Short cs) (hz : turnF skewV cs = some z) :
    Calls Try.prog 36 #[.agg #[.slice A n c]] w fun e w' => RetE 9 w.heap.size w z e w' := deSkewed_r A c n cs z w hn h hs (by rw [hz]; rfl)

theorem AddEngines_big0 (A A' : Option Addr) (c c' n m : Nat) (w : World) (h1 : 1048576 < n) (h2 : n ≤ 9223372036854775807) :
    Calls Try.prog 6 #[.slice A n c, .slice A' m c'] w fun e w' => e = .returned (.bool true) ∧ Below w.heap.size w w' := by
  have hbig' : (1048576 : Int) < n := by omega
  go_enter Try.func6, Try.ntmps6
  go_wp2
  go_ret
  exact ⟨rfl, Below.refl _ _⟩
theorem AddEngines_big1 (A A' : Option Addr) (c c' n m : Nat) (w : World) (h0 : n ≤ 1048576) (h1 : 1048576 < m) (h2 : m ≤ 9223372036854775807) :
    Calls Try.prog 6 #[.slice A n c, .slice A' m c'] w fun e w' => e = .returned (.bool true) ∧ Below w.heap.size w w' := by
  have hbig' : (1048576 : Int) < m := by omega
  have hbig0 : ¬ (1048576 : Int) < n := by omega
  go_enter Try.func6, Try.ntmps6
  go_wp2
  go_ret
  exact ⟨rfl, Below.refl _ _⟩

set_option maxHeartbeats 8000000 in
theorem AddEngines_walk (A : Option Addr) (c : Nat) (zs : List Int) (A' : Option Addr) (c' m : Nat) (w : World) (h : SR w A (zs.map (Value.int .u8))) (hbig : zs.length ≤ 1048576) (hbm : m ≤ 1048576) (hcap : zs.length ≤ c) (hx : ∀ x ∈ zs, 0 ≤ x ∧ x ≤ 255) :
    Calls Try.prog 6 #[.slice A zs.length c, .slice A' m c'] w fun e w' => e = .returned (.bool true) ∧ Below w.heap.size w w' := by
  have H := hd h
  have Hx := hd hx
  have hbig' : ¬ (1048576 : Int) < zs.length := by omega
  have hbig1 : ¬ (1048576 : Int) < m := by omega
  obtain ⟨k0, hk0⟩ : ∃ k0, k0 = m % 20 := ⟨_, rfl⟩
  have em : (m : Int) % 20 = (k0 : Int) := by omega
  have hk1 : k0 ≤ 19 := by omega
  clear h hx hk0
  go_enter Try.func6, Try.ntmps6
  go_wp2_with fail
  refine (DrawAddEngines_any A c zs _ H.out hcap Hx.out).mono ?_
  rintro e w1 ⟨Aa, ca, cs, Ab, cb, ds, rfl, ⟨hl8, hsz⟩, ⟨hl9, hsz2⟩, own1, own2, k1⟩
  have Hsa := hd (hsz.short (by decide))
  have Hsb := hd (hsz2.short (by decide))
  have LA := hd own1
  have LB := hd own2
  clear hsz hsz2 own1 own2
  have C2 := Cs.two w1 (.slice Aa cs.length ca) (.slice Ab ds.length cb) 36 36
  have EA := hd (C2.2 (w1.heap.size, (.slice Aa cs.length ca)) (by simp)).1
  have EB := hd (C2.2 (w1.heap.size + 1, (.slice Ab ds.length cb)) (by simp)).1
  have LA := hd ((LA.out.alloc (.cells #[.slice Aa cs.length ca] 36)).alloc (.cells #[.slice Ab ds.length cb] 36))
  have LB := hd ((LB.out.alloc (.cells #[.slice Aa cs.length ca] 36)).alloc (.cells #[.slice Ab ds.length cb] 36))
  have k1 := k1.trans (C2.1.mono k1.size)
  clear C2
  obtain ⟨ea1, ea2, -⟩ := EA.out
  obtain ⟨eb1, eb2, -⟩ := EB.out
  cases hm : addF cs ds with
  | none =>
    obtain ⟨z, hz0⟩ : ∃ z : List ByteArray, z = [] := ⟨_, rfl⟩
    have Hz : Hid ((addF cs ds).getD [] = z ∧ (addF cs ds).isSome = false) := hd (by rw [hm, hz0]; exact ⟨rfl, rfl⟩)
    clear hz0 hm
    go_wp2_with fail
    refine (AddEngines_z Aa ca _ cs Ab cb _ ds z false _ rfl LA.out.sg Hsa.out rfl LB.out.sg Hsb.out Hz.out).mono ?_
    rintro e w2 ⟨B2, d2, rfl, own2, b2⟩
    clear ea1 ea2 eb1 eb2
    have EA := hd (EA.out.below b2)
    have EB := hd (EB.out.below b2)
    have LA := hd (LA.out.below b2)
    have LB := hd (LB.out.below b2)
    have k2 := k1.trans (b2.mono k1.size)
    have LX := hd own2
    clear own2
    clear b2
    obtain ⟨ea1, ea2, -⟩ := EA.out
    obtain ⟨eb1, eb2, -⟩ := EB.out
    clear ea1 ea2 eb1 eb2
    have X0 := hd (Cl.new w2 (.slice B2 z.length d2) 36)
    have EA := hd (EA.out.alloc (.cells #[.slice B2 z.length d2] 36))
    have EB := hd (EB.out.alloc (.cells #[.slice B2 z.length d2] 36))
    have LA := hd (LA.out.alloc (.cells #[.slice B2 z.length d2] 36))
    have LB := hd (LB.out.alloc (.cells #[.slice B2 z.length d2] 36))
    have LX := hd (LX.out.alloc (.cells #[.slice B2 z.length d2] 36))
    have k2 := k2.alloc k2.size (.cells #[.slice B2 z.length d2] 36)
    obtain ⟨ea1, ea2, -⟩ := EA.out
    obtain ⟨eb1, eb2, -⟩ := EB.out
    obtain ⟨x01, x02, -⟩ := X0.out
    go_wp2_with fail
    refine (sAddEngines_z Aa ca _ cs Ab cb _ ds z false _ rfl LA.out.sg Hsa.out rfl LB.out.sg Hsb.out Hz.out).mono ?_
    rintro e w3 ⟨B3, d3, rfl, own3, b3⟩
    clear ea1 ea2 eb1 eb2 x01 x02
    have EA := hd (EA.out.below b3)
    have EB := hd (EB.out.below b3)
    have X0 := hd (X0.out.below b3)
    have LA := hd (LA.out.below b3)
    have LB := hd (LB.out.below b3)
    have LX := hd (LX.out.below b3)
    have k3 := k2.trans (b3.mono k2.size)
    have LW := hd own3
    clear own3
    clear b3
    obtain ⟨ea1, ea2, -⟩ := EA.out
    obtain ⟨eb1, eb2, -⟩ := EB.out
    obtain ⟨x01, x02, -⟩ := X0.out
    clear ea1 ea2 eb1 eb2 x01 x02
    have W0 := hd (Cl.new w3 (.slice B3 z.length d3) 36)
    have EA := hd (EA.out.alloc (.cells #[.slice B3 z.length d3] 36))
    have EB := hd (EB.out.alloc (.cells #[.slice B3 z.length d3] 36))
    have X0 := hd (X0.out.alloc (.cells #[.slice B3 z.length d3] 36))
    have LA := hd (LA.out.alloc (.cells #[.slice B3 z.length d3] 36))
    have LB := hd (LB.out.alloc (.cells #[.slice B3 z.length d3] 36))
    have LX := hd (LX.out.alloc (.cells #[.slice B3 z.length d3] 36))
    have LW := hd (LW.out.alloc (.cells #[.slice B3 z.length d3] 36))
    have k3 := k3.alloc k3.size (.cells #[.slice B3 z.length d3] 36)
    obtain ⟨ea1, ea2, -⟩ := EA.out
    obtain ⟨eb1, eb2, -⟩ := EB.out
    obtain ⟨x01, x02, -⟩ := X0.out
    obtain ⟨w01, w02, -⟩ := W0.out
    go_wp2_with fail
    refine (deSame_same _ B2 B3 d2 d3 z _ rfl LX.out.sg LW.out.sg).mono ?_
    rintro e w4 ⟨rfl, b4⟩
    clear ea1 ea2 eb1 eb2 x01 x02 w01 w02
    have EA := hd (EA.out.below b4)
    have EB := hd (EB.out.below b4)
    have X0 := hd (X0.out.below b4)
    have W0 := hd (W0.out.below b4)
    have LA := hd (LA.out.below b4)
    have LB := hd (LB.out.below b4)
    have LX := hd (LX.out.below b4)
    have LW := hd (LW.out.below b4)
    have k4 := k3.trans (b4.mono k3.size)
    clear b4
    obtain ⟨ea1, ea2, -⟩ := EA.out
    obtain ⟨eb1, eb2, -⟩ := EB.out
    obtain ⟨x01, x02, -⟩ := X0.out
    obtain ⟨w01, w02, -⟩ := W0.out
    go_wp2_with fail
    refine (deSame_same _ B2 B3 d2 d3 z _ rfl LX.out.sg LW.out.sg).mono ?_
    rintro e w5 ⟨rfl, b5⟩
    clear ea1 ea2 eb1 eb2 x01 x02 w01 w02
    have EA := hd (EA.out.below b5)
    have EB := hd (EB.out.below b5)
    have X0 := hd (X0.out.below b5)
    have W0 := hd (W0.out.below b5)
    have LA := hd (LA.out.below b5)
    have LB := hd (LB.out.below b5)
    have LX := hd (LX.out.below b5)
    have LW := hd (LW.out.below b5)
    have k5 := k4.trans (b5.mono k4.size)
    clear b5
    obtain ⟨ea1, ea2, -⟩ := EA.out
    obtain ⟨eb1, eb2, -⟩ := EB.out
    obtain ⟨x01, x02, -⟩ := X0.out
    obtain ⟨w01, w02, -⟩ := W0.out
    go_wp2
    go_ret
    exact ⟨rfl, k5⟩
  | some z =>
    have Hz : Hid ((addF cs ds).getD [] = z ∧ (addF cs ds).isSome = true) := hd (by rw [hm]; exact ⟨rfl, rfl⟩)
    obtain ⟨W, a, b, hW1, hW12, ha1, ha7, hab, hcs, hds, hzz, hva, hvb, hvz⟩ := add_laws hm
    have hkin : inB (k0 : Int) 300 = true := by simp [inB]; omega
    obtain ⟨xa, hxa⟩ : ∃ x, x = eng W (manyV a (k0 : Int)) := ⟨_, rfl⟩
    obtain ⟨xb, hxb⟩ : ∃ x, x = eng W (manyV b (k0 : Int)) := ⟨_, rfl⟩
    obtain ⟨xz, hxz⟩ : ∃ x, x = eng W (manyV (plusV a b) (k0 : Int)) := ⟨_, rfl⟩
    obtain ⟨ya, hya⟩ : ∃ x, x = eng W (skewV a) := ⟨_, rfl⟩
    obtain ⟨yb, hyb⟩ : ∃ x, x = eng W (skewV b) := ⟨_, rfl⟩
    obtain ⟨yz, hyz⟩ : ∃ x, x = eng W (skewV (plusV a b)) := ⟨_, rfl⟩
    have Hxa : Hid (manyF (k0 : Int) cs = some xa) := hd (by rw [hcs, hxa]; exact many_eng hW1 hW12 ha1 ha7 hkin)
    have Hxb : Hid (manyF (k0 : Int) ds = some xb) := hd (by rw [hds, hxb]; exact many_eng hW1 hW12 (by omega) (by omega) hkin)
    have Hxz : Hid (manyF (k0 : Int) z = some xz) := hd (by rw [hzz, hxz]; exact many_eng hW1 hW12 (by rw [plusV_length]; exact ha1) (by rw [plusV_length]; exact ha7) hkin)
    have Hx : Hid ((addF xa xb).getD [] = xz ∧ (addF xa xb).isSome = true) := hd (by rw [hxa, hxb, hxz, add_turned (k0 : Int) hW1 hW12 ha1 ha7 hab]; exact ⟨rfl, rfl⟩)
    have Hya : Hid (turnF skewV cs = some ya) := hd (by rw [hcs, hya]; exact skew_eng hW1 hW12 ha1 ha7)
    have Hyb : Hid (turnF skewV ds = some yb) := hd (by rw [hds, hyb]; exact skew_eng hW1 hW12 (by omega) (by omega))
    have Hyz : Hid (turnF skewV z = some yz) := hd (by rw [hzz, hyz]; exact skew_eng hW1 hW12 (by rw [plusV_length]; exact ha1) (by rw [plusV_length]; exact ha7))
    have Hy : Hid ((addF ya yb).getD [] = yz ∧ (addF ya yb).isSome = true) := hd (by rw [hya, hyb, hyz, add_skewed hW1 hW12 ha1 ha7 hab]; exact ⟨rfl, rfl⟩)
    have Hb : Hid ((addF ds cs).getD [] = z ∧ (addF ds cs).isSome = true) := hd (by rw [hcs, hds, hzz, add_back hW1 hW12 ha1 ha7 hab]; exact ⟨rfl, rfl⟩)
    have Hsxa : Hid (Short xa) := hd (by rw [hxa]; exact short_eng hW12 _)
    have Hsxb : Hid (Short xb) := hd (by rw [hxb]; exact short_eng hW12 _)
    have Hsya : Hid (Short ya) := hd (by rw [hya]; exact short_eng hW12 _)
    have Hsyb : Hid (Short yb) := hd (by rw [hyb]; exact short_eng hW12 _)
    have Hsz : Hid (Short z) := hd (by rw [hzz]; exact short_eng hW12 _)
    clear hxa hxb hxz hya hyb hyz hcs hds hzz hva hvb hvz hm hkin ha1 ha7 hab hW1 hW12
    go_wp2_with fail
    refine (AddEngines_z Aa ca _ cs Ab cb _ ds z true _ rfl LA.out.sg Hsa.out rfl LB.out.sg Hsb.out Hz.out).mono ?_
    rintro e w2 ⟨B2, d2, rfl, own2, b2⟩
    clear ea1 ea2 eb1 eb2
    have EA := hd (EA.out.below b2)
    have EB := hd (EB.out.below b2)
    have LA := hd (LA.out.below b2)
    have LB := hd (LB.out.below b2)
    have k2 := k1.trans (b2.mono k1.size)
    have LX := hd own2
    clear own2
    clear b2
    obtain ⟨ea1, ea2, -⟩ := EA.out
    obtain ⟨eb1, eb2, -⟩ := EB.out
    clear ea1 ea2 eb1 eb2
    have X0 := hd (Cl.new w2 (.slice B2 z.length d2) 36)
    have EA := hd (EA.out.alloc (.cells #[.slice B2 z.length d2] 36))
    have EB := hd (EB.out.alloc (.cells #[.slice B2 z.length d2] 36))
    have LA := hd (LA.out.alloc (.cells #[.slice B2 z.length d2] 36))
    have LB := hd (LB.out.alloc (.cells #[.slice B2 z.length d2] 36))
    have LX := hd (LX.out.alloc (.cells #[.slice B2 z.length d2] 36))
    have k2 := k2.alloc k2.size (.cells #[.slice B2 z.length d2] 36)
    obtain ⟨ea1, ea2, -⟩ := EA.out
    obtain ⟨eb1, eb2, -⟩ := EB.out
    obtain ⟨x01, x02, -⟩ := X0.out
    go_wp2_with fail
    refine (sAddEngines_z Aa ca _ cs Ab cb _ ds z true _ rfl LA.out.sg Hsa.out rfl LB.out.sg Hsb.out Hz.out).mono ?_
    rintro e w3 ⟨B3, d3, rfl, own3, b3⟩
    clear ea1 ea2 eb1 eb2 x01 x02
    have EA := hd (EA.out.below b3)
    have EB := hd (EB.out.below b3)
    have X0 := hd (X0.out.below b3)
    have LA := hd (LA.out.below b3)
    have LB := hd (LB.out.below b3)
    have LX := hd (LX.out.below b3)
    have k3 := k2.trans (b3.mono k2.size)
    have LW := hd own3
    clear own3
    clear b3
    obtain ⟨ea1, ea2, -⟩ := EA.out
    obtain ⟨eb1, eb2, -⟩ := EB.out
    obtain ⟨x01, x02, -⟩ := X0.out
    clear ea1 ea2 eb1 eb2 x01 x02
    have W0 := hd (Cl.new w3 (.slice B3 z.length d3) 36)
    have EA := hd (EA.out.alloc (.cells #[.slice B3 z.length d3] 36))
    have EB := hd (EB.out.alloc (.cells #[.slice B3 z.length d3] 36))
    have X0 := hd (X0.out.alloc (.cells #[.slice B3 z.length d3] 36))
    have LA := hd (LA.out.alloc (.cells #[.slice B3 z.length d3] 36))
    have LB := hd (LB.out.alloc (.cells #[.slice B3 z.length d3] 36))
    have LX := hd (LX.out.alloc (.cells #[.slice B3 z.length d3] 36))
    have LW := hd (LW.out.alloc (.cells #[.slice B3 z.length d3] 36))
    have k3 := k3.alloc k3.size (.cells #[.slice B3 z.length d3] 36)
    obtain ⟨ea1, ea2, -⟩ := EA.out
    obtain ⟨eb1, eb2, -⟩ := EB.out
    obtain ⟨x01, x02, -⟩ := X0.out
    obtain ⟨w01, w02, -⟩ := W0.out
    go_wp2_with fail
    refine (deSame_same _ B2 B3 d2 d3 z _ rfl LX.out.sg LW.out.sg).mono ?_
    rintro e w4 ⟨rfl, b4⟩
    clear ea1 ea2 eb1 eb2 x01 x02 w01 w02
    have EA := hd (EA.out.below b4)
    have EB := hd (EB.out.below b4)
    have X0 := hd (X0.out.below b4)
    have W0 := hd (W0.out.below b4)
    have LA := hd (LA.out.below b4)
    have LB := hd (LB.out.below b4)
    have LX := hd (LX.out.below b4)
    have LW := hd (LW.out.below b4)
    have k4 := k3.trans (b4.mono k3.size)
    clear b4
    obtain ⟨ea1, ea2, -⟩ := EA.out
    obtain ⟨eb1, eb2, -⟩ := EB.out
    obtain ⟨x01, x02, -⟩ := X0.out
    obtain ⟨w01, w02, -⟩ := W0.out
    clear w01 w02
    have LX := hd (LX.out.low (Nat.zero_le _))
    go_upto_region 9 with fail
    rw [em]
    clear em
    go_cut [12, 13] (fun s t wx => ∃ (g : Nat) (A : Option Addr) (c : Nat), s = .pointer (some ⟨g, 0, none⟩) ∧ t = .bool true ∧ Hid (Cl wx g (.slice A xz.length c) ∧ OwnS 9 0 wx A c xz ∧ Below w.heap.size w wx ∧ Cl wx (w1.heap.size) (.slice Aa cs.length ca) ∧ Cl wx (w1.heap.size + 1) (.slice Ab ds.length cb) ∧ Cl wx (w2.heap.size) (.slice B2 z.length d2) ∧ OwnS 9 w.heap.size wx Aa ca cs ∧ OwnS 9 w.heap.size wx Ab cb ds ∧ OwnS 9 0 wx B2 d2 z))
    case first =>
      have hz4 : w1.heap.size + 1 < w4.heap.size := EB.out.2.2
      have hcX0 := X0.out.2.2
      have hlLA := fun g hg => (LA.out.lt (g := g) hg).2
      have hlLB := fun g hg => (LB.out.lt (g := g) hg).2
      have hlLX := fun g hg => (LX.out.lt (g := g) hg).2
      have hk4 : w.heap.size ≤ w4.heap.size := k4.size
      go_region_held3 (fun w' => w'.cell? ⟨w1.heap.size, 0, none⟩ = some (.slice Aa cs.length ca) ∧ w'.cell? ⟨w1.heap.size + 1, 0, none⟩ = some (.slice Ab ds.length cb)) (first | exact ⟨ea1, eb1⟩ | exact ⟨(EA.out.alloc _).1, (EB.out.alloc _).1⟩ | exact ⟨(EA.out.drew.alloc _).1, (EB.out.drew.alloc _).1⟩ | exact ⟨cell_far' ea1 (show w1.heap.size < _ by omega), cell_far' eb1 (show w1.heap.size + 1 < _ by omega)⟩ | go_keep) (first | (go_simp; go_at_call_has 35 Ab; (first | (show Calls Try.prog 35 _ (World.alloc _ _) _; have EA := hd (EA.out.alloc (.cells #[.slice none 0 0] 36)); have EB := hd (EB.out.alloc (.cells #[.slice none 0 0] 36)); have X0 := hd (X0.out.alloc (.cells #[.slice none 0 0] 36)); have LA := hd (LA.out.alloc (.cells #[.slice none 0 0] 36)); have LB := hd (LB.out.alloc (.cells #[.slice none 0 0] 36)); have LX := hd (LX.out.alloc (.cells #[.slice none 0 0] 36)); have T0 := hd (T0.out.alloc (.cells #[.slice none 0 0] 36)); have Y0 := hd (Cl.new w5 (.slice none 0 0) 36); have k5 := k5.alloc k5.size (.cells #[.slice none 0 0] 36); refine (deTurned_w Ab cb _ ds xb (k0 : Int) _ _ (by first | rfl | omega) rfl LB.out.sg Hsb.out Hxb.out).mono ?_) | refine (deTurned_w Ab cb _ ds xb (k0 : Int) _ _ (by first | rfl | omega) rfl LB.out.sg Hsb.out Hxb.out).mono ?_); rintro e w6 ⟨B6, d6, rfl, own6, b6⟩; clear ea1 ea2 eb1 eb2 x01 x02; have EA := hd (EA.out.below b6); have EB := hd (EB.out.below b6); have X0 := hd (X0.out.below b6); have LA := hd (LA.out.below b6); have LB := hd (LB.out.below b6); have LX := hd (LX.out.below b6); have T0 := hd (T0.out.below b6); (try (have Y0 := hd (Y0.out.below b6); obtain ⟨y0c, y0f, -⟩ := Y0.out)); have S6 := hd b6.size; have k6 := k5.trans (b6.mono k5.size); have T1 := hd own6; clear own6; clear b6; have hz6 : w1.heap.size + 1 < w6.heap.size := EB.out.2.2; obtain ⟨ea1, ea2, -⟩ := EA.out; obtain ⟨eb1, eb2, -⟩ := EB.out; obtain ⟨x01, x02, -⟩ := X0.out) | (go_simp; go_at_call_has 35 Aa; (first | (show Calls Try.prog 35 _ (World.drew (World.alloc _ _)) _; have EA := hd (EA.out.alloc (.cells #[.slice none 0 0] 36)); have EB := hd (EB.out.alloc (.cells #[.slice none 0 0] 36)); have X0 := hd (X0.out.alloc (.cells #[.slice none 0 0] 36)); have LA := hd (LA.out.alloc (.cells #[.slice none 0 0] 36)); have LB := hd (LB.out.alloc (.cells #[.slice none 0 0] 36)); have LX := hd (LX.out.alloc (.cells #[.slice none 0 0] 36)); have Y0 := hd (Cl.new w4 (.slice none 0 0) 36); have k4 := k4.alloc k4.size (.cells #[.slice none 0 0] 36); refine (deTurned_w Aa ca _ cs xa (k0 : Int) _ _ (by first | rfl | omega) rfl LA.out.drew.sg Hsa.out Hxa.out).mono ?_) | refine (deTurned_w Aa ca _ cs xa (k0 : Int) _ _ (by first | rfl | omega) rfl LA.out.drew.sg Hsa.out Hxa.out).mono ?_); rintro e w5 ⟨B5, d5, rfl, own5, b5⟩; clear ea1 ea2 eb1 eb2 x01 x02; have EA := hd (EA.out.drew.below b5); have EB := hd (EB.out.drew.below b5); have X0 := hd (X0.out.drew.below b5); have LA := hd (LA.out.drew.below b5); have LB := hd (LB.out.drew.below b5); have LX := hd (LX.out.drew.below b5); (try (have Y0 := hd (Y0.out.drew.below b5); obtain ⟨y0c, y0f, -⟩ := Y0.out)); have S5 := hd b5.size; have k5 := k4.drew.trans (b5.mono k4.size); have T0 := hd own5; clear own5; clear b5; have hz5 : w1.heap.size + 1 < w5.heap.size := EB.out.2.2; obtain ⟨ea1, ea2, -⟩ := EA.out; obtain ⟨eb1, eb2, -⟩ := EB.out; obtain ⟨x01, x02, -⟩ := X0.out) | (go_simp; go_at_call 32; (first | (show Calls Try.prog 32 _ (World.alloc _ _) _; have EA := hd (EA.out.alloc (.cells #[.slice none 0 0] 36)); have EB := hd (EB.out.alloc (.cells #[.slice none 0 0] 36)); have X0 := hd (X0.out.alloc (.cells #[.slice none 0 0] 36)); have LA := hd (LA.out.alloc (.cells #[.slice none 0 0] 36)); have LB := hd (LB.out.alloc (.cells #[.slice none 0 0] 36)); have LX := hd (LX.out.alloc (.cells #[.slice none 0 0] 36)); have T0 := hd (T0.out.alloc (.cells #[.slice none 0 0] 36)); have T1 := hd (T1.out.alloc (.cells #[.slice none 0 0] 36)); have Y0 := hd (Cl.new w6 (.slice none 0 0) 36); have k6 := k6.alloc k6.size (.cells #[.slice none 0 0] 36); refine (AddEngines_z B5 d5 _ xa B6 d6 _ xb xz true _ rfl T0.out.sg Hsxa.out rfl T1.out.sg Hsxb.out Hx.out).mono ?_) | refine (AddEngines_z B5 d5 _ xa B6 d6 _ xb xz true _ rfl T0.out.sg Hsxa.out rfl T1.out.sg Hsxb.out Hx.out).mono ?_); rintro e w7 ⟨B7, d7, rfl, own7, b7⟩; clear ea1 ea2 eb1 eb2 x01 x02; have EA := hd (EA.out.below b7); have EB := hd (EB.out.below b7); have X0 := hd (X0.out.below b7); have LA := hd (LA.out.below b7); have LB := hd (LB.out.below b7); have LX := hd (LX.out.below b7); have T0 := hd (T0.out.below b7); have T1 := hd (T1.out.below b7); (try (have Y0 := hd (Y0.out.below b7); obtain ⟨y0c, y0f, -⟩ := Y0.out)); have S7 := hd b7.size; have k7 := k6.trans (b7.mono k6.size); have LY := hd own7; clear own7; clear b7; have hz7 : w1.heap.size + 1 < w7.heap.size := EB.out.2.2; obtain ⟨ea1, ea2, -⟩ := EA.out; obtain ⟨eb1, eb2, -⟩ := EB.out; obtain ⟨x01, x02, -⟩ := X0.out))
      all_goals
        clear T0 T1
        clear ea1 ea2 eb1 eb2 x01 x02
        (first | (have Y0 := hd (Cl.new w7 (.slice B7 xz.length d7) 36); have EA := hd (EA.out.alloc (.cells #[.slice B7 xz.length d7] 36)); have EB := hd (EB.out.alloc (.cells #[.slice B7 xz.length d7] 36)); have X0 := hd (X0.out.alloc (.cells #[.slice B7 xz.length d7] 36)); have LA := hd (LA.out.alloc (.cells #[.slice B7 xz.length d7] 36)); have LB := hd (LB.out.alloc (.cells #[.slice B7 xz.length d7] 36)); have LX := hd (LX.out.alloc (.cells #[.slice B7 xz.length d7] 36)); have LY := hd (LY.out.alloc (.cells #[.slice B7 xz.length d7] 36)); have kf := k7.alloc k7.size (.cells #[.slice B7 xz.length d7] 36); obtain ⟨wf, hwf⟩ : ∃ wf, wf = (w7.alloc (.cells #[.slice B7 xz.length d7] 36)) := ⟨_, rfl⟩; rw [← hwf] at Y0 kf EA EB X0 LA LB LX LY ⊢; obtain ⟨gW, hgW⟩ : ∃ gW, gW = w7.heap.size := ⟨_, rfl⟩; rw [← hgW] at Y0 ⊢) | (have Y0 : Hid (Cl (w7.setCell ⟨w4.heap.size, 0, none⟩ (.slice B7 xz.length d7)) w4.heap.size (.slice B7 xz.length d7)) := hd (cl_put' Y0.out (.slice B7 xz.length d7)); have qa := S5.out; have qb := S6.out; have qc := S7.out; simp only [szA, szD] at qa qb qc; have EA := hd (EA.out.other (grown_set w7 ⟨w4.heap.size, 0, none⟩ (.slice B7 xz.length d7)) (by simp <;> omega)); have EB := hd (EB.out.other (grown_set w7 ⟨w4.heap.size, 0, none⟩ (.slice B7 xz.length d7)) (by simp <;> omega)); have X0 := hd (X0.out.other (grown_set w7 ⟨w4.heap.size, 0, none⟩ (.slice B7 xz.length d7)) (by simp <;> omega)); have LA := hd (LA.out.keep_hi (U := w4.heap.size) hlLA (grown_set w7 ⟨w4.heap.size, 0, none⟩ (.slice B7 xz.length d7)) (fun r hr => by simp at hr; omega)); have LB := hd (LB.out.keep_hi (U := w4.heap.size) hlLB (grown_set w7 ⟨w4.heap.size, 0, none⟩ (.slice B7 xz.length d7)) (fun r hr => by simp at hr; omega)); have LX := hd (LX.out.keep_hi (U := w4.heap.size) hlLX (grown_set w7 ⟨w4.heap.size, 0, none⟩ (.slice B7 xz.length d7)) (fun r hr => by simp at hr; omega)); have LY := hd (LY.out.keep_lo (grown_set w7 ⟨w4.heap.size, 0, none⟩ (.slice B7 xz.length d7)) (fun r hr => by simp at hr; (try simp only [szA]); omega)); have kf := k7.setCell (p := ⟨w4.heap.size, 0, none⟩) (show w.heap.size ≤ w4.heap.size by omega) (.slice B7 xz.length d7); obtain ⟨wf, hwf⟩ : ∃ wf, wf = (w7.setCell ⟨w4.heap.size, 0, none⟩ (.slice B7 xz.length d7)) := ⟨_, rfl⟩; rw [← hwf] at Y0 kf EA EB X0 LA LB LX LY ⊢; obtain ⟨gW, hgW⟩ : ∃ gW, gW = w4.heap.size := ⟨_, rfl⟩; rw [← hgW] at Y0 ⊢) | (have Y0 : Hid (Cl (w7.setCell ⟨w5.heap.size, 0, none⟩ (.slice B7 xz.length d7)) w5.heap.size (.slice B7 xz.length d7)) := hd (cl_put' Y0.out (.slice B7 xz.length d7)); have qa := S5.out; have qb := S6.out; have qc := S7.out; simp only [szA, szD] at qa qb qc; have EA := hd (EA.out.other (grown_set w7 ⟨w5.heap.size, 0, none⟩ (.slice B7 xz.length d7)) (by simp <;> omega)); have EB := hd (EB.out.other (grown_set w7 ⟨w5.heap.size, 0, none⟩ (.slice B7 xz.length d7)) (by simp <;> omega)); have X0 := hd (X0.out.other (grown_set w7 ⟨w5.heap.size, 0, none⟩ (.slice B7 xz.length d7)) (by simp <;> omega)); have LA := hd (LA.out.keep_hi (U := w4.heap.size) hlLA (grown_set w7 ⟨w5.heap.size, 0, none⟩ (.slice B7 xz.length d7)) (fun r hr => by simp at hr; omega)); have LB := hd (LB.out.keep_hi (U := w4.heap.size) hlLB (grown_set w7 ⟨w5.heap.size, 0, none⟩ (.slice B7 xz.length d7)) (fun r hr => by simp at hr; omega)); have LX := hd (LX.out.keep_hi (U := w4.heap.size) hlLX (grown_set w7 ⟨w5.heap.size, 0, none⟩ (.slice B7 xz.length d7)) (fun r hr => by simp at hr; omega)); have LY := hd (LY.out.keep_lo (grown_set w7 ⟨w5.heap.size, 0, none⟩ (.slice B7 xz.length d7)) (fun r hr => by simp at hr; (try simp only [szA]); omega)); have kf := k7.setCell (p := ⟨w5.heap.size, 0, none⟩) (show w.heap.size ≤ w5.heap.size by omega) (.slice B7 xz.length d7); obtain ⟨wf, hwf⟩ : ∃ wf, wf = (w7.setCell ⟨w5.heap.size, 0, none⟩ (.slice B7 xz.length d7)) := ⟨_, rfl⟩; rw [← hwf] at Y0 kf EA EB X0 LA LB LX LY ⊢; obtain ⟨gW, hgW⟩ : ∃ gW, gW = w5.heap.size := ⟨_, rfl⟩; rw [← hgW] at Y0 ⊢) | (have Y0 : Hid (Cl (w7.setCell ⟨w6.heap.size, 0, none⟩ (.slice B7 xz.length d7)) w6.heap.size (.slice B7 xz.length d7)) := hd (cl_put' Y0.out (.slice B7 xz.length d7)); have qa := S5.out; have qb := S6.out; have qc := S7.out; simp only [szA, szD] at qa qb qc; have EA := hd (EA.out.other (grown_set w7 ⟨w6.heap.size, 0, none⟩ (.slice B7 xz.length d7)) (by simp <;> omega)); have EB := hd (EB.out.other (grown_set w7 ⟨w6.heap.size, 0, none⟩ (.slice B7 xz.length d7)) (by simp <;> omega)); have X0 := hd (X0.out.other (grown_set w7 ⟨w6.heap.size, 0, none⟩ (.slice B7 xz.length d7)) (by simp <;> omega)); have LA := hd (LA.out.keep_hi (U := w4.heap.size) hlLA (grown_set w7 ⟨w6.heap.size, 0, none⟩ (.slice B7 xz.length d7)) (fun r hr => by simp at hr; omega)); have LB := hd (LB.out.keep_hi (U := w4.heap.size) hlLB (grown_set w7 ⟨w6.heap.size, 0, none⟩ (.slice B7 xz.length d7)) (fun r hr => by simp at hr; omega)); have LX := hd (LX.out.keep_hi (U := w4.heap.size) hlLX (grown_set w7 ⟨w6.heap.size, 0, none⟩ (.slice B7 xz.length d7)) (fun r hr => by simp at hr; omega)); have LY := hd (LY.out.keep_lo (grown_set w7 ⟨w6.heap.size, 0, none⟩ (.slice B7 xz.length d7)) (fun r hr => by simp at hr; (try simp only [szA]); omega)); have kf := k7.setCell (p := ⟨w6.heap.size, 0, none⟩) (show w.heap.size ≤ w6.heap.size by omega) (.slice B7 xz.length d7); obtain ⟨wf, hwf⟩ : ∃ wf, wf = (w7.setCell ⟨w6.heap.size, 0, none⟩ (.slice B7 xz.length d7)) := ⟨_, rfl⟩; rw [← hwf] at Y0 kf EA EB X0 LA LB LX LY ⊢; obtain ⟨gW, hgW⟩ : ∃ gW, gW = w6.heap.size := ⟨_, rfl⟩; rw [← hgW] at Y0 ⊢))
        clear hgW hwf
        have hy9 := hd (And.intro Y0.out (And.intro (LY.out.low (Nat.zero_le _)) (And.intro kf (And.intro EA.out (And.intro EB.out (And.intro X0.out (And.intro LA.out (And.intro LB.out LX.out))))))))
        go_wp2_with fail
        go_meet
        exact ⟨_, _, _, rfl, rfl, hy9⟩
    case rest =>
      rename World => vp
      obtain ⟨gp, Ap, cp, rfl, rfl, hcut⟩ := hcut
      clear ea1 ea2 eb1 eb2 x01 x02
      clear EA EB X0 LA LB LX
      obtain ⟨Y0q, LYq, kq, EAq, EBq, X0q, LAq, LBq, LXq⟩ := hcut.out
      clear hcut
      have Y0 := hd Y0q
      have LY := hd LYq
      have EA := hd EAq
      have EB := hd EBq
      have X0 := hd X0q
      have LA := hd LAq
      have LB := hd LBq
      have LX := hd LXq
      have kp := kq
      clear Y0q LYq kq EAq EBq X0q LAq LBq LXq
      obtain ⟨ea1, ea2, -⟩ := EA.out
      obtain ⟨eb1, eb2, -⟩ := EB.out
      obtain ⟨x01, x02, -⟩ := X0.out
      obtain ⟨y01, y02, -⟩ := Y0.out
      go_upto_region 10 with fail
      go_cut [14, 15] (fun s t wx => ∃ (g : Nat) (A : Option Addr) (c : Nat), s = .pointer (some ⟨g, 0, none⟩) ∧ t = .bool true ∧ Hid (Cl wx g (.slice A yz.length c) ∧ OwnS 9 0 wx A c yz ∧ Below w.heap.size w wx ∧ Cl wx (w1.heap.size) (.slice Aa cs.length ca) ∧ Cl wx (w1.heap.size + 1) (.slice Ab ds.length cb) ∧ Cl wx (w2.heap.size) (.slice B2 z.length d2) ∧ Cl wx (gp) (.slice Ap xz.length cp) ∧ OwnS 9 w.heap.size wx Aa ca cs ∧ OwnS 9 w.heap.size wx Ab cb ds ∧ OwnS 9 0 wx B2 d2 z ∧ OwnS 9 0 wx Ap cp xz))
      case first =>
        have hz4 : w1.heap.size + 1 < vp.heap.size := EB.out.2.2
        have hcX0 := X0.out.2.2
        have hcY0 := Y0.out.2.2
        have hlLA := fun g hg => (LA.out.lt (g := g) hg).2
        have hlLB := fun g hg => (LB.out.lt (g := g) hg).2
        have hlLX := fun g hg => (LX.out.lt (g := g) hg).2
        have hlLY := fun g hg => (LY.out.lt (g := g) hg).2
        have hk4 : w.heap.size ≤ vp.heap.size := kp.size
        go_region_held3 (fun w' => w'.cell? ⟨w1.heap.size, 0, none⟩ = some (.slice Aa cs.length ca) ∧ w'.cell? ⟨w1.heap.size + 1, 0, none⟩ = some (.slice Ab ds.length cb)) (first | exact ⟨ea1, eb1⟩ | exact ⟨(EA.out.alloc _).1, (EB.out.alloc _).1⟩ | exact ⟨(EA.out.drew.alloc _).1, (EB.out.drew.alloc _).1⟩ | exact ⟨cell_far' ea1 (show w1.heap.size < _ by omega), cell_far' eb1 (show w1.heap.size + 1 < _ by omega)⟩ | go_keep) (first | (go_simp; go_at_call_has 36 Ab; (first | (show Calls Try.prog 36 _ (World.alloc _ _) _; have EA := hd (EA.out.alloc (.cells #[.slice none 0 0] 36)); have EB := hd (EB.out.alloc (.cells #[.slice none 0 0] 36)); have X0 := hd (X0.out.alloc (.cells #[.slice none 0 0] 36)); have Y0 := hd (Y0.out.alloc (.cells #[.slice none 0 0] 36)); have LA := hd (LA.out.alloc (.cells #[.slice none 0 0] 36)); have LB := hd (LB.out.alloc (.cells #[.slice none 0 0] 36)); have LX := hd (LX.out.alloc (.cells #[.slice none 0 0] 36)); have LY := hd (LY.out.alloc (.cells #[.slice none 0 0] 36)); have T0 := hd (T0.out.alloc (.cells #[.slice none 0 0] 36)); have U0 := hd (Cl.new w5 (.slice none 0 0) 36); have k5 := k5.alloc k5.size (.cells #[.slice none 0 0] 36); refine (deSkewed_w Ab cb _ ds yb _ rfl LB.out.sg Hsb.out Hyb.out).mono ?_) | refine (deSkewed_w Ab cb _ ds yb _ rfl LB.out.sg Hsb.out Hyb.out).mono ?_); rintro e w6 ⟨B6, d6, rfl, own6, b6⟩; clear ea1 ea2 eb1 eb2 x01 x02 y01 y02; have EA := hd (EA.out.below b6); have EB := hd (EB.out.below b6); have X0 := hd (X0.out.below b6); have Y0 := hd (Y0.out.below b6); have LA := hd (LA.out.below b6); have LB := hd (LB.out.below b6); have LX := hd (LX.out.below b6); have LY := hd (LY.out.below b6); have T0 := hd (T0.out.below b6); (try (have U0 := hd (U0.out.below b6); obtain ⟨u0c, u0f, -⟩ := U0.out)); have S6 := hd b6.size; have k6 := k5.trans (b6.mono k5.size); have T1 := hd own6; clear own6; clear b6; have hz6 : w1.heap.size + 1 < w6.heap.size := EB.out.2.2; obtain ⟨ea1, ea2, -⟩ := EA.out; obtain ⟨eb1, eb2, -⟩ := EB.out; obtain ⟨x01, x02, -⟩ := X0.out; obtain ⟨y01, y02, -⟩ := Y0.out) | (go_simp; go_at_call_has 36 Aa; (first | (show Calls Try.prog 36 _ (World.drew (World.alloc _ _)) _; have EA := hd (EA.out.alloc (.cells #[.slice none 0 0] 36)); have EB := hd (EB.out.alloc (.cells #[.slice none 0 0] 36)); have X0 := hd (X0.out.alloc (.cells #[.slice none 0 0] 36)); have Y0 := hd (Y0.out.alloc (.cells #[.slice none 0 0] 36)); have LA := hd (LA.out.alloc (.cells #[.slice none 0 0] 36)); have LB := hd (LB.out.alloc (.cells #[.slice none 0 0] 36)); have LX := hd (LX.out.alloc (.cells #[.slice none 0 0] 36)); have LY := hd (LY.out.alloc (.cells #[.slice none 0 0] 36)); have U0 := hd (Cl.new vp (.slice none 0 0) 36); have kp := kp.alloc kp.size (.cells #[.slice none 0 0] 36); refine (deSkewed_w Aa ca _ cs ya _ rfl LA.out.drew.sg Hsa.out Hya.out).mono ?_) | refine (deSkewed_w Aa ca _ cs ya _ rfl LA.out.drew.sg Hsa.out Hya.out).mono ?_); rintro e w5 ⟨B5, d5, rfl, own5, b5⟩; clear ea1 ea2 eb1 eb2 x01 x02 y01 y02; have EA := hd (EA.out.drew.below b5); have EB := hd (EB.out.drew.below b5); have X0 := hd (X0.out.drew.below b5); have Y0 := hd (Y0.out.drew.below b5); have LA := hd (LA.out.drew.below b5); have LB := hd (LB.out.drew.below b5); have LX := hd (LX.out.drew.below b5); have LY := hd (LY.out.drew.below b5); (try (have U0 := hd (U0.out.drew.below b5); obtain ⟨u0c, u0f, -⟩ := U0.out)); have S5 := hd b5.size; have k5 := kp.drew.trans (b5.mono kp.size); have T0 := hd own5; clear own5; clear b5; have hz5 : w1.heap.size + 1 < w5.heap.size := EB.out.2.2; obtain ⟨ea1, ea2, -⟩ := EA.out; obtain ⟨eb1, eb2, -⟩ := EB.out; obtain ⟨x01, x02, -⟩ := X0.out; obtain ⟨y01, y02, -⟩ := Y0.out) | (go_simp; go_at_call 32; (first | (show Calls Try.prog 32 _ (World.alloc _ _) _; have EA := hd (EA.out.alloc (.cells #[.slice none 0 0] 36)); have EB := hd (EB.out.alloc (.cells #[.slice none 0 0] 36)); have X0 := hd (X0.out.alloc (.cells #[.slice none 0 0] 36)); have Y0 := hd (Y0.out.alloc (.cells #[.slice none 0 0] 36)); have LA := hd (LA.out.alloc (.cells #[.slice none 0 0] 36)); have LB := hd (LB.out.alloc (.cells #[.slice none 0 0] 36)); have LX := hd (LX.out.alloc (.cells #[.slice none 0 0] 36)); have LY := hd (LY.out.alloc (.cells #[.slice none 0 0] 36)); have T0 := hd (T0.out.alloc (.cells #[.slice none 0 0] 36)); have T1 := hd (T1.out.alloc (.cells #[.slice none 0 0] 36)); have U0 := hd (Cl.new w6 (.slice none 0 0) 36); have k6 := k6.alloc k6.size (.cells #[.slice none 0 0] 36); refine (AddEngines_z B5 d5 _ ya B6 d6 _ yb yz true _ rfl T0.out.sg Hsya.out rfl T1.out.sg Hsyb.out Hy.out).mono ?_) | refine (AddEngines_z B5 d5 _ ya B6 d6 _ yb yz true _ rfl T0.out.sg Hsya.out rfl T1.out.sg Hsyb.out Hy.out).mono ?_); rintro e w7 ⟨B7, d7, rfl, own7, b7⟩; clear ea1 ea2 eb1 eb2 x01 x02 y01 y02; have EA := hd (EA.out.below b7); have EB := hd (EB.out.below b7); have X0 := hd (X0.out.below b7); have Y0 := hd (Y0.out.below b7); have LA := hd (LA.out.below b7); have LB := hd (LB.out.below b7); have LX := hd (LX.out.below b7); have LY := hd (LY.out.below b7); have T0 := hd (T0.out.below b7); have T1 := hd (T1.out.below b7); (try (have U0 := hd (U0.out.below b7); obtain ⟨u0c, u0f, -⟩ := U0.out)); have S7 := hd b7.size; have k7 := k6.trans (b7.mono k6.size); have LU := hd own7; clear own7; clear b7; have hz7 : w1.heap.size + 1 < w7.heap.size := EB.out.2.2; obtain ⟨ea1, ea2, -⟩ := EA.out; obtain ⟨eb1, eb2, -⟩ := EB.out; obtain ⟨x01, x02, -⟩ := X0.out; obtain ⟨y01, y02, -⟩ := Y0.out))
        all_goals
          clear T0 T1
          clear ea1 ea2 eb1 eb2 x01 x02 y01 y02
          (first | (have U0 := hd (Cl.new w7 (.slice B7 yz.length d7) 36); have EA := hd (EA.out.alloc (.cells #[.slice B7 yz.length d7] 36)); have EB := hd (EB.out.alloc (.cells #[.slice B7 yz.length d7] 36)); have X0 := hd (X0.out.alloc (.cells #[.slice B7 yz.length d7] 36)); have Y0 := hd (Y0.out.alloc (.cells #[.slice B7 yz.length d7] 36)); have LA := hd (LA.out.alloc (.cells #[.slice B7 yz.length d7] 36)); have LB := hd (LB.out.alloc (.cells #[.slice B7 yz.length d7] 36)); have LX := hd (LX.out.alloc (.cells #[.slice B7 yz.length d7] 36)); have LY := hd (LY.out.alloc (.cells #[.slice B7 yz.length d7] 36)); have LU := hd (LU.out.alloc (.cells #[.slice B7 yz.length d7] 36)); have kf := k7.alloc k7.size (.cells #[.slice B7 yz.length d7] 36); obtain ⟨wf, hwf⟩ : ∃ wf, wf = (w7.alloc (.cells #[.slice B7 yz.length d7] 36)) := ⟨_, rfl⟩; rw [← hwf] at U0 kf EA EB X0 Y0 LA LB LX LY LU ⊢; obtain ⟨gW, hgW⟩ : ∃ gW, gW = w7.heap.size := ⟨_, rfl⟩; rw [← hgW] at U0 ⊢) | (have U0 : Hid (Cl (w7.setCell ⟨vp.heap.size, 0, none⟩ (.slice B7 yz.length d7)) vp.heap.size (.slice B7 yz.length d7)) := hd (cl_put' U0.out (.slice B7 yz.length d7)); have qa := S5.out; have qb := S6.out; have qc := S7.out; simp only [szA, szD] at qa qb qc; have EA := hd (EA.out.other (grown_set w7 ⟨vp.heap.size, 0, none⟩ (.slice B7 yz.length d7)) (by simp <;> omega)); have EB := hd (EB.out.other (grown_set w7 ⟨vp.heap.size, 0, none⟩ (.slice B7 yz.length d7)) (by simp <;> omega)); have X0 := hd (X0.out.other (grown_set w7 ⟨vp.heap.size, 0, none⟩ (.slice B7 yz.length d7)) (by simp <;> omega)); have Y0 := hd (Y0.out.other (grown_set w7 ⟨vp.heap.size, 0, none⟩ (.slice B7 yz.length d7)) (by simp <;> omega)); have LA := hd (LA.out.keep_hi (U := vp.heap.size) hlLA (grown_set w7 ⟨vp.heap.size, 0, none⟩ (.slice B7 yz.length d7)) (fun r hr => by simp at hr; omega)); have LB := hd (LB.out.keep_hi (U := vp.heap.size) hlLB (grown_set w7 ⟨vp.heap.size, 0, none⟩ (.slice B7 yz.length d7)) (fun r hr => by simp at hr; omega)); have LX := hd (LX.out.keep_hi (U := vp.heap.size) hlLX (grown_set w7 ⟨vp.heap.size, 0, none⟩ (.slice B7 yz.length d7)) (fun r hr => by simp at hr; omega)); have LY := hd (LY.out.keep_hi (U := vp.heap.size) hlLY (grown_set w7 ⟨vp.heap.size, 0, none⟩ (.slice B7 yz.length d7)) (fun r hr => by simp at hr; omega)); have LU := hd (LU.out.keep_lo (grown_set w7 ⟨vp.heap.size, 0, none⟩ (.slice B7 yz.length d7)) (fun r hr => by simp at hr; (try simp only [szA]); omega)); have kf := k7.setCell (p := ⟨vp.heap.size, 0, none⟩) (show w.heap.size ≤ vp.heap.size by omega) (.slice B7 yz.length d7); obtain ⟨wf, hwf⟩ : ∃ wf, wf = (w7.setCell ⟨vp.heap.size, 0, none⟩ (.slice B7 yz.length d7)) := ⟨_, rfl⟩; rw [← hwf] at U0 kf EA EB X0 Y0 LA LB LX LY LU ⊢; obtain ⟨gW, hgW⟩ : ∃ gW, gW = vp.heap.size := ⟨_, rfl⟩; rw [← hgW] at U0 ⊢) | (have U0 : Hid (Cl (w7.setCell ⟨w5.heap.size, 0, none⟩ (.slice B7 yz.length d7)) w5.heap.size (.slice B7 yz.length d7)) := hd (cl_put' U0.out (.slice B7 yz.length d7)); have qa := S5.out; have qb := S6.out; have qc := S7.out; simp only [szA, szD] at qa qb qc; have EA := hd (EA.out.other (grown_set w7 ⟨w5.heap.size, 0, none⟩ (.slice B7 yz.length d7)) (by simp <;> omega)); have EB := hd (EB.out.other (grown_set w7 ⟨w5.heap.size, 0, none⟩ (.slice B7 yz.length d7)) (by simp <;> omega)); have X0 := hd (X0.out.other (grown_set w7 ⟨w5.heap.size, 0, none⟩ (.slice B7 yz.length d7)) (by simp <;> omega)); have Y0 := hd (Y0.out.other (grown_set w7 ⟨w5.heap.size, 0, none⟩ (.slice B7 yz.length d7)) (by simp <;> omega)); have LA := hd (LA.out.keep_hi (U := vp.heap.size) hlLA (grown_set w7 ⟨w5.heap.size, 0, none⟩ (.slice B7 yz.length d7)) (fun r hr => by simp at hr; omega)); have LB := hd (LB.out.keep_hi (U := vp.heap.size) hlLB (grown_set w7 ⟨w5.heap.size, 0, none⟩ (.slice B7 yz.length d7)) (fun r hr => by simp at hr; omega)); have LX := hd (LX.out.keep_hi (U := vp.heap.size) hlLX (grown_set w7 ⟨w5.heap.size, 0, none⟩ (.slice B7 yz.length d7)) (fun r hr => by simp at hr; omega)); have LY := hd (LY.out.keep_hi (U := vp.heap.size) hlLY (grown_set w7 ⟨w5.heap.size, 0, none⟩ (.slice B7 yz.length d7)) (fun r hr => by simp at hr; omega)); have LU := hd (LU.out.keep_lo (grown_set w7 ⟨w5.heap.size, 0, none⟩ (.slice B7 yz.length d7)) (fun r hr => by simp at hr; (try simp only [szA]); omega)); have kf := k7.setCell (p := ⟨w5.heap.size, 0, none⟩) (show w.heap.size ≤ w5.heap.size by omega) (.slice B7 yz.length d7); obtain ⟨wf, hwf⟩ : ∃ wf, wf = (w7.setCell ⟨w5.heap.size, 0, none⟩ (.slice B7 yz.length d7)) := ⟨_, rfl⟩; rw [← hwf] at U0 kf EA EB X0 Y0 LA LB LX LY LU ⊢; obtain ⟨gW, hgW⟩ : ∃ gW, gW = w5.heap.size := ⟨_, rfl⟩; rw [← hgW] at U0 ⊢) | (have U0 : Hid (Cl (w7.setCell ⟨w6.heap.size, 0, none⟩ (.slice B7 yz.length d7)) w6.heap.size (.slice B7 yz.length d7)) := hd (cl_put' U0.out (.slice B7 yz.length d7)); have qa := S5.out; have qb := S6.out; have qc := S7.out; simp only [szA, szD] at qa qb qc; have EA := hd (EA.out.other (grown_set w7 ⟨w6.heap.size, 0, none⟩ (.slice B7 yz.length d7)) (by simp <;> omega)); have EB := hd (EB.out.other (grown_set w7 ⟨w6.heap.size, 0, none⟩ (.slice B7 yz.length d7)) (by simp <;> omega)); have X0 := hd (X0.out.other (grown_set w7 ⟨w6.heap.size, 0, none⟩ (.slice B7 yz.length d7)) (by simp <;> omega)); have Y0 := hd (Y0.out.other (grown_set w7 ⟨w6.heap.size, 0, none⟩ (.slice B7 yz.length d7)) (by simp <;> omega)); have LA := hd (LA.out.keep_hi (U := vp.heap.size) hlLA (grown_set w7 ⟨w6.heap.size, 0, none⟩ (.slice B7 yz.length d7)) (fun r hr => by simp at hr; omega)); have LB := hd (LB.out.keep_hi (U := vp.heap.size) hlLB (grown_set w7 ⟨w6.heap.size, 0, none⟩ (.slice B7 yz.length d7)) (fun r hr => by simp at hr; omega)); have LX := hd (LX.out.keep_hi (U := vp.heap.size) hlLX (grown_set w7 ⟨w6.heap.size, 0, none⟩ (.slice B7 yz.length d7)) (fun r hr => by simp at hr; omega)); have LY := hd (LY.out.keep_hi (U := vp.heap.size) hlLY (grown_set w7 ⟨w6.heap.size, 0, none⟩ (.slice B7 yz.length d7)) (fun r hr => by simp at hr; omega)); have LU := hd (LU.out.keep_lo (grown_set w7 ⟨w6.heap.size, 0, none⟩ (.slice B7 yz.length d7)) (fun r hr => by simp at hr; (try simp only [szA]); omega)); have kf := k7.setCell (p := ⟨w6.heap.size, 0, none⟩) (show w.heap.size ≤ w6.heap.size by omega) (.slice B7 yz.length d7); obtain ⟨wf, hwf⟩ : ∃ wf, wf = (w7.setCell ⟨w6.heap.size, 0, none⟩ (.slice B7 yz.length d7)) := ⟨_, rfl⟩; rw [← hwf] at U0 kf EA EB X0 Y0 LA LB LX LY LU ⊢; obtain ⟨gW, hgW⟩ : ∃ gW, gW = w6.heap.size := ⟨_, rfl⟩; rw [← hgW] at U0 ⊢))
          clear hgW hwf
          have hy9 := hd (And.intro U0.out (And.intro (LU.out.low (Nat.zero_le _)) (And.intro kf (And.intro EA.out (And.intro EB.out (And.intro X0.out (And.intro Y0.out (And.intro LA.out (And.intro LB.out (And.intro LX.out LY.out))))))))))
          go_wp2_with fail
          go_meet
          exact ⟨_, _, _, rfl, rfl, hy9⟩
      case rest =>
        rename World => vq
        obtain ⟨gq, Aq, cq, rfl, rfl, hcut⟩ := hcut
        clear ea1 ea2 eb1 eb2 x01 x02 y01 y02
        clear EA EB X0 Y0 LA LB LX LY
        obtain ⟨U0q, LUq, kq, EAq, EBq, X0q, Y0q, LAq, LBq, LXq, LYq⟩ := hcut.out
        clear hcut
        have U0 := hd U0q
        have LU := hd LUq
        have EA := hd EAq
        have EB := hd EBq
        have X0 := hd X0q
        have Y0 := hd Y0q
        have LA := hd LAq
        have LB := hd LBq
        have LX := hd LXq
        have LY := hd LYq
        have kq := kq
        clear U0q LUq kq EAq EBq X0q Y0q LAq LBq LXq LYq
        obtain ⟨ea1, ea2, -⟩ := EA.out
        obtain ⟨eb1, eb2, -⟩ := EB.out
        obtain ⟨x01, x02, -⟩ := X0.out
        obtain ⟨y01, y02, -⟩ := Y0.out
        obtain ⟨u01, u02, -⟩ := U0.out
        go_wp2_with fail
        refine (AddEngines_z Ab cb _ ds Aa ca _ cs z true _ rfl LB.out.sg Hsb.out rfl LA.out.sg Hsa.out Hb.out).mono ?_
        rintro e w5 ⟨B5, d5, rfl, own5, b5⟩
        clear ea1 ea2 eb1 eb2 x01 x02 y01 y02 u01 u02
        have EA := hd (EA.out.below b5)
        have EB := hd (EB.out.below b5)
        have X0 := hd (X0.out.below b5)
        have Y0 := hd (Y0.out.below b5)
        have U0 := hd (U0.out.below b5)
        have LA := hd (LA.out.below b5)
        have LB := hd (LB.out.below b5)
        have LX := hd (LX.out.below b5)
        have LY := hd (LY.out.below b5)
        have LU := hd (LU.out.below b5)
        have k5 := kq.trans (b5.mono kq.size)
        have LV := hd own5
        clear own5
        clear b5
        obtain ⟨ea1, ea2, -⟩ := EA.out
        obtain ⟨eb1, eb2, -⟩ := EB.out
        obtain ⟨x01, x02, -⟩ := X0.out
        obtain ⟨y01, y02, -⟩ := Y0.out
        obtain ⟨u01, u02, -⟩ := U0.out
        clear ea1 ea2 eb1 eb2 x01 x02 y01 y02 u01 u02
        have V0 := hd (Cl.new w5 (.slice B5 z.length d5) 36)
        have EA := hd (EA.out.alloc (.cells #[.slice B5 z.length d5] 36))
        have EB := hd (EB.out.alloc (.cells #[.slice B5 z.length d5] 36))
        have X0 := hd (X0.out.alloc (.cells #[.slice B5 z.length d5] 36))
        have Y0 := hd (Y0.out.alloc (.cells #[.slice B5 z.length d5] 36))
        have U0 := hd (U0.out.alloc (.cells #[.slice B5 z.length d5] 36))
        have LA := hd (LA.out.alloc (.cells #[.slice B5 z.length d5] 36))
        have LB := hd (LB.out.alloc (.cells #[.slice B5 z.length d5] 36))
        have LX := hd (LX.out.alloc (.cells #[.slice B5 z.length d5] 36))
        have LY := hd (LY.out.alloc (.cells #[.slice B5 z.length d5] 36))
        have LU := hd (LU.out.alloc (.cells #[.slice B5 z.length d5] 36))
        have LV := hd (LV.out.alloc (.cells #[.slice B5 z.length d5] 36))
        have k5 := k5.alloc k5.size (.cells #[.slice B5 z.length d5] 36)
        obtain ⟨ea1, ea2, -⟩ := EA.out
        obtain ⟨eb1, eb2, -⟩ := EB.out
        obtain ⟨x01, x02, -⟩ := X0.out
        obtain ⟨y01, y02, -⟩ := Y0.out
        obtain ⟨u01, u02, -⟩ := U0.out
        obtain ⟨v01, v02, -⟩ := V0.out
        clear ea1 ea2
        clear eb1 eb2
        go_wp2
        go_region_held3 (fun w' => w'.cell? ⟨gp, 0, none⟩ = some (.slice Ap xz.length cp) ∧ w'.cell? ⟨gq, 0, none⟩ = some (.slice Aq yz.length cq) ∧ w'.cell? ⟨w5.heap.size, 0, none⟩ = some (.slice B5 z.length d5) ∧ w'.cell? ⟨w2.heap.size, 0, none⟩ = some (.slice B2 z.length d2)) (first | exact ⟨y01, u01, v01, x01⟩ | go_keep) (first | (go_simp; go_at_call_has 34 B5; refine (deSame_same _ B5 B2 d5 d2 z _ rfl LV.out.sg LX.out.sg).mono ?_; rintro e w10 ⟨rfl, b10⟩; clear x01 x02 y01 y02 u01 u02 v01 v02; have X0 := hd (X0.out.below b10); have Y0 := hd (Y0.out.below b10); have U0 := hd (U0.out.below b10); have V0 := hd (V0.out.below b10); have LX := hd (LX.out.below b10); have LY := hd (LY.out.below b10); have LU := hd (LU.out.below b10); have LV := hd (LV.out.below b10); have LT := hd (LT.out.below b10); have LS := hd (LS.out.below b10); have k10 := k9.trans (b10.mono k9.size); clear b10; obtain ⟨x01, x02, -⟩ := X0.out; obtain ⟨y01, y02, -⟩ := Y0.out; obtain ⟨u01, u02, -⟩ := U0.out; obtain ⟨v01, v02, -⟩ := V0.out) | (go_simp; go_at_call_has 34 Aq; refine (deSame_same _ Aq B8 cq d8 yz _ rfl LU.out.sg LS.out.sg).mono ?_; rintro e w9 ⟨rfl, b9⟩; clear x01 x02 y01 y02 u01 u02 v01 v02; have X0 := hd (X0.out.below b9); have Y0 := hd (Y0.out.below b9); have U0 := hd (U0.out.below b9); have V0 := hd (V0.out.below b9); have LX := hd (LX.out.below b9); have LY := hd (LY.out.below b9); have LU := hd (LU.out.below b9); have LV := hd (LV.out.below b9); have LT := hd (LT.out.below b9); have LS := hd (LS.out.below b9); have k9 := k8.trans (b9.mono k8.size); clear b9; obtain ⟨x01, x02, -⟩ := X0.out; obtain ⟨y01, y02, -⟩ := Y0.out; obtain ⟨u01, u02, -⟩ := U0.out; obtain ⟨v01, v02, -⟩ := V0.out) | (go_simp; go_at_call 36; refine (deSkewed_w B2 d2 _ z yz _ rfl LX.out.sg Hsz.out Hyz.out).mono ?_; rintro e w8 ⟨B8, d8, rfl, own8, b8⟩; clear x01 x02 y01 y02 u01 u02 v01 v02; have X0 := hd (X0.out.below b8); have Y0 := hd (Y0.out.below b8); have U0 := hd (U0.out.below b8); have V0 := hd (V0.out.below b8); have LX := hd (LX.out.below b8); have LY := hd (LY.out.below b8); have LU := hd (LU.out.below b8); have LV := hd (LV.out.below b8); have LT := hd (LT.out.below b8); have k8 := k7.trans (b8.mono k7.size); have LS := hd own8; clear own8; clear b8; obtain ⟨x01, x02, -⟩ := X0.out; obtain ⟨y01, y02, -⟩ := Y0.out; obtain ⟨u01, u02, -⟩ := U0.out; obtain ⟨v01, v02, -⟩ := V0.out) | (go_simp; go_at_call_has 34 Ap; refine (deSame_same _ Ap B6 cp d6 xz _ rfl LY.out.sg LT.out.sg).mono ?_; rintro e w7 ⟨rfl, b7⟩; clear x01 x02 y01 y02 u01 u02 v01 v02; have X0 := hd (X0.out.below b7); have Y0 := hd (Y0.out.below b7); have U0 := hd (U0.out.below b7); have V0 := hd (V0.out.below b7); have LX := hd (LX.out.below b7); have LY := hd (LY.out.below b7); have LU := hd (LU.out.below b7); have LV := hd (LV.out.below b7); have LT := hd (LT.out.below b7); have k7 := k6.trans (b7.mono k6.size); clear b7; obtain ⟨x01, x02, -⟩ := X0.out; obtain ⟨y01, y02, -⟩ := Y0.out; obtain ⟨u01, u02, -⟩ := U0.out; obtain ⟨v01, v02, -⟩ := V0.out) | (go_simp; go_at_call 35; refine (deTurned_w B2 d2 _ z xz (k0 : Int) _ _ (by first | rfl | omega) rfl LX.out.drew.sg Hsz.out Hxz.out).mono ?_; rintro e w6 ⟨B6, d6, rfl, own6, b6⟩; clear x01 x02 y01 y02 u01 u02 v01 v02; have X0 := hd (X0.out.drew.below b6); have Y0 := hd (Y0.out.drew.below b6); have U0 := hd (U0.out.drew.below b6); have V0 := hd (V0.out.drew.below b6); have LX := hd (LX.out.drew.below b6); have LY := hd (LY.out.drew.below b6); have LU := hd (LU.out.drew.below b6); have LV := hd (LV.out.drew.below b6); have k6 := k5.drew.trans (b6.mono k5.size); have LT := hd own6; clear own6; clear b6; obtain ⟨x01, x02, -⟩ := X0.out; obtain ⟨y01, y02, -⟩ := Y0.out; obtain ⟨u01, u02, -⟩ := U0.out; obtain ⟨v01, v02, -⟩ := V0.out))
        go_wp2
        go_ret
        exact ⟨rfl, k10⟩

end Go.Proofs.Ytkmblobfamhoiaa
