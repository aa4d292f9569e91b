/- The walk of the law WidenEngine: the law returns true, whatever the input. -/
import Derived.Test.YtkmblobfamhoiaaLwP
import Derived.Test.YtkmblobfamhoiaaGrI
import Derived.Deep.RegionHeld3
namespace Go.Proofs.Ytkmblobfamhoiaa
open Go.RowKit
set_option maxRecDepth 4000

theorem WidenEngine_big (A : Option Addr) (c n : Nat) (w : World) (h1 : 1048576 < n) (h2 : n ≤ 9223372036854775807) :
    Calls Try.prog 8 #[.slice A n c] w fun e w' => e = .returned (.bool true) ∧ Below w.heap.size w w' := by
  have hbig' : (1048576 : Int) < n := by omega
  go_enter Try.func8, Try.ntmps8
  go_wp2
  go_ret
  exact ⟨rfl, Below.refl _ _⟩

set_option maxHeartbeats 8000000 in
theorem WidenEngine_walk (A : Option Addr) (c : Nat) (zs : List Int) (w : World) (h : SR w A (zs.map (Value.int .u8))) (hbig : zs.length ≤ 1048576) (hcap : zs.length ≤ c) (hx : ∀ x ∈ zs, 0 ≤ x ∧ x ≤ 255) :
    Calls Try.prog 8 #[.slice A zs.length c] w fun e w' => e = .returned (.bool true) ∧ Below w.heap.size w w' := by
  have H := hd h
  have Hx := hd hx
  have hbig' : ¬ (1048576 : Int) < zs.length := by omega
  clear h hx
  go_enter Try.func8, Try.ntmps8
  go_wp2_with fail
  refine (DrawWidenEngine_any A c zs _ H.out hcap Hx.out).mono ?_
  rintro e w1 ⟨Ae, ce, cs, v, rfl, ⟨hl8, hsz⟩, own1, k1, hv64⟩
  have Hsh := hd (hsz.short (by decide))
  have LE := hd own1
  clear hsz own1
  have E0 := hd (Cl.new w1 (.slice Ae cs.length ce) 36)
  have LE := hd (LE.out.alloc (.cells #[.slice Ae cs.length ce] 36))
  have k1 := k1.alloc k1.size (.cells #[.slice Ae cs.length ce] 36)
  obtain ⟨e01, e02, -⟩ := E0.out
  cases hm : widF cs v with
  | none =>
    obtain ⟨z, hz0⟩ : ∃ z : List ByteArray, z = [] := ⟨_, rfl⟩
    have Hz : Hid ((widF cs v).getD [] = z ∧ (widF cs v).isSome = false) := hd (by rw [hm, hz0]; exact ⟨rfl, rfl⟩)
    clear hz0 hm
    go_wp2_with fail
    refine (WidenEngine_z v Ae ce _ cs z false _ rfl LE.out.sg Hsh.out Hz.out).mono ?_
    rintro e w2 ⟨B2, d2, rfl, own2, b2⟩
    clear e01 e02
    have E0 := hd (E0.out.below b2)
    have LE := hd (LE.out.below b2)
    have k2 := k1.trans (b2.mono k1.size)
    have LX := hd own2
    clear own2
    clear b2
    obtain ⟨e01, e02, -⟩ := E0.out
    clear e01 e02
    have X0 := hd (Cl.new w2 (.slice B2 z.length d2) 36)
    have E0 := hd (E0.out.alloc (.cells #[.slice B2 z.length d2] 36))
    have LE := hd (LE.out.alloc (.cells #[.slice B2 z.length d2] 36))
    have LX := hd (LX.out.alloc (.cells #[.slice B2 z.length d2] 36))
    have k2 := k2.alloc k2.size (.cells #[.slice B2 z.length d2] 36)
    obtain ⟨e01, e02, -⟩ := E0.out
    obtain ⟨x01, x02, -⟩ := X0.out
    go_wp2_with fail
    refine (sWidenEngine_z v Ae ce _ cs z false _ rfl LE.out.sg Hsh.out Hz.out).mono ?_
    rintro e w3 ⟨B3, d3, rfl, own3, b3⟩
    clear e01 e02 x01 x02
    have E0 := hd (E0.out.below b3)
    have X0 := hd (X0.out.below b3)
    have LE := hd (LE.out.below b3)
    have LX := hd (LX.out.below b3)
    have k3 := k2.trans (b3.mono k2.size)
    have LW := hd own3
    clear own3
    clear b3
    obtain ⟨e01, e02, -⟩ := E0.out
    obtain ⟨x01, x02, -⟩ := X0.out
    clear e01 e02 x01 x02
    have W0 := hd (Cl.new w3 (.slice B3 z.length d3) 36)
    have E0 := hd (E0.out.alloc (.cells #[.slice B3 z.length d3] 36))
    have X0 := hd (X0.out.alloc (.cells #[.slice B3 z.length d3] 36))
    have LE := hd (LE.out.alloc (.cells #[.slice B3 z.length d3] 36))
    have LX := hd (LX.out.alloc (.cells #[.slice B3 z.length d3] 36))
    have LW := hd (LW.out.alloc (.cells #[.slice B3 z.length d3] 36))
    have k3 := k3.alloc k3.size (.cells #[.slice B3 z.length d3] 36)
    obtain ⟨e01, e02, -⟩ := E0.out
    obtain ⟨x01, x02, -⟩ := X0.out
    obtain ⟨w01, w02, -⟩ := W0.out
    go_wp2_with fail
    refine (deSame_same _ B2 B3 d2 d3 z _ rfl LX.out.sg LW.out.sg).mono ?_
    rintro e w4 ⟨rfl, b4⟩
    clear e01 e02 x01 x02 w01 w02
    have E0 := hd (E0.out.below b4)
    have X0 := hd (X0.out.below b4)
    have W0 := hd (W0.out.below b4)
    have LE := hd (LE.out.below b4)
    have LX := hd (LX.out.below b4)
    have LW := hd (LW.out.below b4)
    have k4 := k3.trans (b4.mono k3.size)
    clear b4
    obtain ⟨e01, e02, -⟩ := E0.out
    obtain ⟨x01, x02, -⟩ := X0.out
    obtain ⟨w01, w02, -⟩ := W0.out
    go_wp2_with fail
    refine (deSame_same _ B2 B3 d2 d3 z _ rfl LX.out.sg LW.out.sg).mono ?_
    rintro e w5 ⟨rfl, b5⟩
    clear e01 e02 x01 x02 w01 w02
    have E0 := hd (E0.out.below b5)
    have X0 := hd (X0.out.below b5)
    have W0 := hd (W0.out.below b5)
    have LE := hd (LE.out.below b5)
    have LX := hd (LX.out.below b5)
    have LW := hd (LW.out.below b5)
    have k5 := k4.trans (b5.mono k4.size)
    clear b5
    obtain ⟨e01, e02, -⟩ := E0.out
    obtain ⟨x01, x02, -⟩ := X0.out
    obtain ⟨w01, w02, -⟩ := W0.out
    go_wp2
    go_ret
    exact ⟨rfl, k5⟩
  | some z =>
    have Hz : Hid ((widF cs v).getD [] = z ∧ (widF cs v).isSome = true) := hd (by rw [hm]; exact ⟨rfl, rfl⟩)
    have hv : engV cs = true := by cases hv : engV cs with | true => rfl | false => rw [widF_none hv] at hm; cases hm
    obtain ⟨hvz, hback, hread⟩ := wid_back hv hm
    obtain ⟨hee, hW1, hW12, hn1, hn7⟩ := engV_vals hv
    have hcl : (cvs cs).length = cs.length := by simp [cvs]
    rw [hcl] at hn1 hn7
    obtain ⟨s0, hs0⟩ : ∃ s0, cs[0]? = some s0 := ⟨cs[0], List.getElem?_eq_getElem (by omega)⟩
    have hss : s0.size = hsz cs := by rw [hsz]; cases cs with | nil => simp at hs0 | cons a r => simp at hs0; rw [hs0]; rfl
    obtain ⟨bE, oE, hbE, -⟩ := LE.out.sg.nonempty (by omega)
    have Hb : Hid ((widF z (s0.size : Int)).getD [] = cs ∧ (widF z (s0.size : Int)).isSome = true) := hd (by rw [hss, hback]; exact ⟨rfl, rfl⟩)
    obtain ⟨r, ok, hr⟩ : ∃ r ok, (readF cs).getD [] = r ∧ (readF cs).isSome = ok := ⟨_, _, rfl, rfl⟩
    have Hr := hd hr
    have Hrz : Hid ((readF z).getD [] = r ∧ (readF z).isSome = ok) := hd (by rw [hread]; exact hr)
    have Hshz := hd (eng_short' hvz)
    have Hs0 := hd hs0
    have E0u := hd E0.out
    have LEu := hd LE.out
    have k1u := k1
    clear hvz hback hread hee hW1 hW12 hn7 hcl hs0 hss hr hm hv
    clear e01 e02
    subst hbE
    have E0 := hd E0u.out
    have LE := hd LEu.out
    have k1 := k1u
    clear E0u LEu k1u
    obtain ⟨e01, e02, -⟩ := E0.out
    have e0 : (0 : Int) < cs.length := by omega
    have e00 : 0 < cs.length := hn1
    go_wp2_with fail
    refine (WidenEngine_z v (some ⟨bE, oE, none⟩) ce _ cs z true _ rfl LE.out.sg Hsh.out Hz.out).mono ?_
    rintro e w2 ⟨B2, d2, rfl, own2, b2⟩
    clear e01 e02
    have E0 := hd (E0.out.below b2)
    have LE := hd (LE.out.below b2)
    have k2 := k1.trans (b2.mono k1.size)
    have LX := hd own2
    clear own2
    clear b2
    obtain ⟨e01, e02, -⟩ := E0.out
    clear e01 e02
    have X0 := hd (Cl.new w2 (.slice B2 z.length d2) 36)
    have E0 := hd (E0.out.alloc (.cells #[.slice B2 z.length d2] 36))
    have LE := hd (LE.out.alloc (.cells #[.slice B2 z.length d2] 36))
    have LX := hd (LX.out.alloc (.cells #[.slice B2 z.length d2] 36))
    have k2 := k2.alloc k2.size (.cells #[.slice B2 z.length d2] 36)
    obtain ⟨e01, e02, -⟩ := E0.out
    obtain ⟨x01, x02, -⟩ := X0.out
    go_wp2_with fail
    refine (sWidenEngine_z v (some ⟨bE, oE, none⟩) ce _ cs z true _ rfl LE.out.sg Hsh.out Hz.out).mono ?_
    rintro e w3 ⟨B3, d3, rfl, own3, b3⟩
    clear e01 e02 x01 x02
    have E0 := hd (E0.out.below b3)
    have X0 := hd (X0.out.below b3)
    have LE := hd (LE.out.below b3)
    have LX := hd (LX.out.below b3)
    have k3 := k2.trans (b3.mono k2.size)
    have LW := hd own3
    clear own3
    clear b3
    obtain ⟨e01, e02, -⟩ := E0.out
    obtain ⟨x01, x02, -⟩ := X0.out
    clear e01 e02 x01 x02
    have W0 := hd (Cl.new w3 (.slice B3 z.length d3) 36)
    have E0 := hd (E0.out.alloc (.cells #[.slice B3 z.length d3] 36))
    have X0 := hd (X0.out.alloc (.cells #[.slice B3 z.length d3] 36))
    have LE := hd (LE.out.alloc (.cells #[.slice B3 z.length d3] 36))
    have LX := hd (LX.out.alloc (.cells #[.slice B3 z.length d3] 36))
    have LW := hd (LW.out.alloc (.cells #[.slice B3 z.length d3] 36))
    have k3 := k3.alloc k3.size (.cells #[.slice B3 z.length d3] 36)
    obtain ⟨e01, e02, -⟩ := E0.out
    obtain ⟨x01, x02, -⟩ := X0.out
    obtain ⟨w01, w02, -⟩ := W0.out
    go_wp2_with fail
    refine (deSame_same _ B2 B3 d2 d3 z _ rfl LX.out.sg LW.out.sg).mono ?_
    rintro e w4 ⟨rfl, b4⟩
    clear e01 e02 x01 x02 w01 w02
    have E0 := hd (E0.out.below b4)
    have X0 := hd (X0.out.below b4)
    have W0 := hd (W0.out.below b4)
    have LE := hd (LE.out.below b4)
    have LX := hd (LX.out.below b4)
    have LW := hd (LW.out.below b4)
    have k4 := k3.trans (b4.mono k3.size)
    clear b4
    obtain ⟨e01, e02, -⟩ := E0.out
    obtain ⟨x01, x02, -⟩ := X0.out
    obtain ⟨w01, w02, -⟩ := W0.out
    have hcE := (LE.out.sg.cellK Hs0.out).1
    have hbE := (LE.out.sg.cellK Hs0.out).2
    rw [Nat.add_zero] at hcE
    have hcE0 := E0.out.2.2
    have hcX0 := X0.out.2.2
    have hcW0 := W0.out.2.2
    have hlLE := fun g hg => (LE.out.lt (g := g) hg).2; have hlLX := fun g hg => (LX.out.lt (g := g) hg).2; have hlLW := fun g hg => (LW.out.lt (g := g) hg).2; have hkp0 : w.heap.size ≤ w4.heap.size := k4.size
    go_wp2
    go_region_held3 (fun w' => w'.cell? ⟨w1.heap.size, 0, none⟩ = some (.slice (some ⟨bE, oE, none⟩) cs.length ce) ∧ w'.cell? ⟨w2.heap.size, 0, none⟩ = some (.slice B2 z.length d2) ∧ w'.cell? ⟨bE, oE, none⟩ = some (.string s0)) (first | exact ⟨e01, x01, hcE⟩ | exact ⟨(E0.out.alloc _).1, (X0.out.alloc _).1, cell_alloc hcE hbE _⟩ | exact ⟨(E0.out.drew.alloc _).1, (X0.out.drew.alloc _).1, cell_alloc (w := World.drew _) hcE hbE _⟩ | exact ⟨cell_far' e01 hcE0, cell_far' x01 hcX0, cell_far' hcE hbE⟩ | go_keep) (first | (go_simp; go_at_call 45; (first | (show Calls Try.prog 45 _ (World.drew (World.alloc _ _)) _; have E0 := hd (E0.out.alloc (.cells #[.slice none 0 0] 36)); have X0 := hd (X0.out.alloc (.cells #[.slice none 0 0] 36)); have W0 := hd (W0.out.alloc (.cells #[.slice none 0 0] 36)); have LE := hd (LE.out.alloc (.cells #[.slice none 0 0] 36)); have LX := hd (LX.out.alloc (.cells #[.slice none 0 0] 36)); have LW := hd (LW.out.alloc (.cells #[.slice none 0 0] 36)); have Y0 := hd (Cl.new w4 (.slice none 0 0) 36); have k4 := k4.alloc k4.size (.cells #[.slice none 0 0] 36); refine (WidenEngine_z (s0.size : Int) B2 d2 _ z cs true _ rfl LX.out.drew.sg Hshz.out Hb.out).mono ?_) | refine (WidenEngine_z (s0.size : Int) B2 d2 _ z cs true _ rfl LX.out.drew.sg Hshz.out Hb.out).mono ?_); rintro e w5 ⟨B5, d5, rfl, own5, b5⟩; clear e01 e02 x01 x02 w01 w02; have E0 := hd (E0.out.drew.below b5); have X0 := hd (X0.out.drew.below b5); have W0 := hd (W0.out.drew.below b5); have LE := hd (LE.out.drew.below b5); have LX := hd (LX.out.drew.below b5); have LW := hd (LW.out.drew.below b5); (try (have Y0 := hd (Y0.out.drew.below b5); obtain ⟨y0c, y0f, -⟩ := Y0.out)); have S5 := hd b5.size; have k5 := k4.drew.trans (b5.mono k4.size); have hcE := (LE.out.sg.cellK Hs0.out).1; rw [Nat.add_zero] at hcE; have LY := hd own5; clear own5 b5; obtain ⟨e01, e02, -⟩ := E0.out; obtain ⟨x01, x02, -⟩ := X0.out; obtain ⟨w01, w02, -⟩ := W0.out))
    all_goals
      clear e01 e02 x01 x02 w01 w02
      (first | (have Y0 := hd (Cl.new w5 (.slice B5 cs.length d5) 36); have E0 := hd (E0.out.alloc (.cells #[.slice B5 cs.length d5] 36)); have X0 := hd (X0.out.alloc (.cells #[.slice B5 cs.length d5] 36)); have W0 := hd (W0.out.alloc (.cells #[.slice B5 cs.length d5] 36)); have LE := hd (LE.out.alloc (.cells #[.slice B5 cs.length d5] 36)); have LX := hd (LX.out.alloc (.cells #[.slice B5 cs.length d5] 36)); have LW := hd (LW.out.alloc (.cells #[.slice B5 cs.length d5] 36)); have LY := hd (LY.out.alloc (.cells #[.slice B5 cs.length d5] 36)); have kf := k5.alloc k5.size (.cells #[.slice B5 cs.length d5] 36); obtain ⟨wf, hwf⟩ : ∃ wf, wf = (w5.alloc (.cells #[.slice B5 cs.length d5] 36)) := ⟨_, rfl⟩; rw [← hwf] at Y0 kf E0 X0 W0 LE LX LW LY ⊢; obtain ⟨gY, hgY⟩ : ∃ gY, gY = w5.heap.size := ⟨_, rfl⟩; rw [← hgY] at Y0 ⊢) | (have Y0 : Hid (Cl (w5.setCell ⟨w4.heap.size, 0, none⟩ (.slice B5 cs.length d5)) w4.heap.size (.slice B5 cs.length d5)) := hd (cl_put' Y0.out (.slice B5 cs.length d5)); have E0 := hd (E0.out.other (grown_set w5 ⟨w4.heap.size, 0, none⟩ (.slice B5 cs.length d5)) (by simp <;> omega)); have X0 := hd (X0.out.other (grown_set w5 ⟨w4.heap.size, 0, none⟩ (.slice B5 cs.length d5)) (by simp <;> omega)); have W0 := hd (W0.out.other (grown_set w5 ⟨w4.heap.size, 0, none⟩ (.slice B5 cs.length d5)) (by simp <;> omega)); have LE := hd (LE.out.keep_hi (U := w4.heap.size) hlLE (grown_set w5 ⟨w4.heap.size, 0, none⟩ (.slice B5 cs.length d5)) (fun r hr => by simp at hr; omega)); have LX := hd (LX.out.keep_hi (U := w4.heap.size) hlLX (grown_set w5 ⟨w4.heap.size, 0, none⟩ (.slice B5 cs.length d5)) (fun r hr => by simp at hr; omega)); have LW := hd (LW.out.keep_hi (U := w4.heap.size) hlLW (grown_set w5 ⟨w4.heap.size, 0, none⟩ (.slice B5 cs.length d5)) (fun r hr => by simp at hr; omega)); have LY := hd (LY.out.keep_lo (grown_set w5 ⟨w4.heap.size, 0, none⟩ (.slice B5 cs.length d5)) (fun r hr => by simp at hr; simp; omega)); have kf := k5.setCell (p := ⟨w4.heap.size, 0, none⟩) (show w.heap.size ≤ w4.heap.size from hkp0) (.slice B5 cs.length d5); obtain ⟨wf, hwf⟩ : ∃ wf, wf = (w5.setCell ⟨w4.heap.size, 0, none⟩ (.slice B5 cs.length d5)) := ⟨_, rfl⟩; rw [← hwf] at Y0 kf E0 X0 W0 LE LX LW LY ⊢; obtain ⟨gY, hgY⟩ : ∃ gY, gY = w4.heap.size := ⟨_, rfl⟩; rw [← hgY] at Y0 ⊢))
      clear hgY hwf
      obtain ⟨e01, e02, -⟩ := E0.out
      obtain ⟨x01, x02, -⟩ := X0.out
      obtain ⟨w01, w02, -⟩ := W0.out
      obtain ⟨y01, y02, -⟩ := Y0.out
      clear hlLE hlLX hlLW
      go_wp2_with fail
      refine (ReadEngine_z (some ⟨bE, oE, none⟩) ce _ cs r ok _ rfl LE.out.sg Hsh.out Hr.out).mono ?_
      rintro e w6 ⟨B6, d6, rfl, own6, b6⟩
      clear e01 e02 x01 x02 w01 w02 y01 y02
      have E0 := hd (E0.out.below b6)
      have X0 := hd (X0.out.below b6)
      have W0 := hd (W0.out.below b6)
      have Y0 := hd (Y0.out.below b6)
      have LE := hd (LE.out.below b6)
      have LX := hd (LX.out.below b6)
      have LW := hd (LW.out.below b6)
      have LY := hd (LY.out.below b6)
      have k6 := kf.trans (b6.mono kf.size)
      have LA := hd own6
      clear own6
      clear b6
      obtain ⟨e01, e02, -⟩ := E0.out
      obtain ⟨x01, x02, -⟩ := X0.out
      obtain ⟨w01, w02, -⟩ := W0.out
      obtain ⟨y01, y02, -⟩ := Y0.out
      go_wp2_with fail
      refine (ReadEngine_z B2 d2 _ z r ok _ rfl LX.out.sg Hshz.out Hrz.out).mono ?_
      rintro e w7 ⟨B7, d7, rfl, own7, b7⟩
      clear e01 e02 x01 x02 w01 w02 y01 y02
      have E0 := hd (E0.out.below b7)
      have X0 := hd (X0.out.below b7)
      have W0 := hd (W0.out.below b7)
      have Y0 := hd (Y0.out.below b7)
      have LE := hd (LE.out.below b7)
      have LX := hd (LX.out.below b7)
      have LW := hd (LW.out.below b7)
      have LY := hd (LY.out.below b7)
      have LA := hd (LA.out.below b7)
      have k7 := k6.trans (b7.mono k6.size)
      have LB := hd own7
      clear own7
      clear b7
      obtain ⟨e01, e02, -⟩ := E0.out
      obtain ⟨x01, x02, -⟩ := X0.out
      obtain ⟨w01, w02, -⟩ := W0.out
      obtain ⟨y01, y02, -⟩ := Y0.out
      go_wp2_with fail
      refine (deSame_same _ B5 (some ⟨bE, oE, none⟩) d5 ce cs _ rfl LY.out.sg LE.out.sg).mono ?_
      rintro e w8 ⟨rfl, b8⟩
      clear e01 e02 x01 x02 w01 w02 y01 y02
      have E0 := hd (E0.out.below b8)
      have X0 := hd (X0.out.below b8)
      have W0 := hd (W0.out.below b8)
      have Y0 := hd (Y0.out.below b8)
      have LE := hd (LE.out.below b8)
      have LX := hd (LX.out.below b8)
      have LW := hd (LW.out.below b8)
      have LY := hd (LY.out.below b8)
      have LA := hd (LA.out.below b8)
      have LB := hd (LB.out.below b8)
      have k8 := k7.trans (b8.mono k7.size)
      clear b8
      obtain ⟨e01, e02, -⟩ := E0.out
      obtain ⟨x01, x02, -⟩ := X0.out
      obtain ⟨w01, w02, -⟩ := W0.out
      obtain ⟨y01, y02, -⟩ := Y0.out
      go_wp2_with fail
      refine (deInts_v _ _ B6 B7 d6 d7 r _ rfl rfl LA.out.sg LB.out.sg).mono ?_
      rintro e w9 ⟨rfl, b9⟩
      clear e01 e02 x01 x02 w01 w02 y01 y02
      have E0 := hd (E0.out.below b9)
      have X0 := hd (X0.out.below b9)
      have W0 := hd (W0.out.below b9)
      have Y0 := hd (Y0.out.below b9)
      have LE := hd (LE.out.below b9)
      have LX := hd (LX.out.below b9)
      have LW := hd (LW.out.below b9)
      have LY := hd (LY.out.below b9)
      have LA := hd (LA.out.below b9)
      have LB := hd (LB.out.below b9)
      have k9 := k8.trans (b9.mono k8.size)
      clear b9
      obtain ⟨e01, e02, -⟩ := E0.out
      obtain ⟨x01, x02, -⟩ := X0.out
      obtain ⟨w01, w02, -⟩ := W0.out
      obtain ⟨y01, y02, -⟩ := Y0.out
      go_wp2
      go_ret
      exact ⟨rfl, k9⟩

end Go.Proofs.Ytkmblobfamhoiaa
