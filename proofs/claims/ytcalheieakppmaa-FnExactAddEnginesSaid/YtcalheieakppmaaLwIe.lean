/- The walk of the exact law of AddEngines: the law returns true, whatever the input. -/
import Derived.Test.YtcalheieakppmaaLwH
import Derived.Test.YtcalheieakppmaaEngK
import Derived.Deep.RegionHeld3
namespace Go.Proofs.Ytcalheieakppmaa
open Go.RowKit
set_option maxRecDepth 4000

theorem cl_put {w : World} {g : Nat} {v : Value} (h : Cl w g v) (x : Value) : Cl (w.setCell ⟨g, 0, none⟩ x) g x :=
  ⟨World.cell?_setCell_same' _ _ _ (by rw [h.1]; rfl), by rw [World.frozen?_setCell]; exact h.2.1, Nat.lt_of_lt_of_le h.2.2 (grown_set w ⟨g, 0, none⟩ x).size⟩
theorem cell_far {w : World} {g b : Nat} {v x : Value} (h : w.cell? ⟨b, 0, none⟩ = some x) (hne : b < g) : (w.setCell ⟨g, 0, none⟩ v).cell? ⟨b, 0, none⟩ = some x := by
  rw [World.cell?_setCell_far _ _ _ _ (show g ≠ b by omega)]; exact h

theorem ExactAddEngines_big0 (A0 : Option Addr) (c0 n0 : Nat) (A1 : Option Addr) (c1 n1 : Nat) (w : World)  (hx1 : 1048576 < n0) (hx2 : n0 ≤ 9223372036854775807) :
    Calls Try.prog 4 #[.agg #[.slice A0 n0 c0], .agg #[.slice A1 n1 c1]] w fun e w' => e = .returned (.bool true) ∧ Below w.heap.size w w' := by
  have k0 : Below w.heap.size w ((w.alloc (.cells #[.slice A0 n0 c0] 29)).alloc (.cells #[.slice A1 n1 c1] 29)) := (((Below.refl w.heap.size w).alloc (by simp) (.cells #[.slice A0 n0 c0] 29)).alloc (by simp) (.cells #[.slice A1 n1 c1] 29))
  go_enter Try.func4, Try.ntmps4
  go_wp2_with fail
  refine (szEngine_big A0 c0 n0 1048576 _ hx1 hx2 (by decide) (by decide)).mono ?_
  rintro e w1 ⟨rfl, b1⟩
  have k1 := k0.trans (b1.mono k0.size)
  clear b1
  go_wp2
  go_ret
  exact ⟨rfl, k1⟩

theorem ExactAddEngines_big1 (A0 : Option Addr) (c0 : Nat) (cs0 : List ByteArray) (A1 : Option Addr) (c1 n1 : Nat) (w : World) (h0 : SS w A0 cs0) (hbig0 : cs0.length ≤ 1048576) (hm0 : ∀ s ∈ cs0, s.size ≤ maxLen) (hx1 : 1048576 < n1) (hx2 : n1 ≤ 9223372036854775807) :
    Calls Try.prog 4 #[.agg #[.slice A0 cs0.length c0], .agg #[.slice A1 n1 c1]] w fun e w' => e = .returned (.bool true) ∧ Below w.heap.size w w' := by
  have H0 := hd h0
  have Hm0 := hd hm0
  clear h0 hm0
  have k0 : Below w.heap.size w ((w.alloc (.cells #[.slice A0 cs0.length c0] 29)).alloc (.cells #[.slice A1 n1 c1] 29)) := (((Below.refl w.heap.size w).alloc (by simp) (.cells #[.slice A0 cs0.length c0] 29)).alloc (by simp) (.cells #[.slice A1 n1 c1] 29))
  have Box1 : Hid (Cl ((w.alloc (.cells #[.slice A0 cs0.length c0] 29)).alloc (.cells #[.slice A1 n1 c1] 29)) (w.heap.size + 1) (.slice A1 n1 c1)) := hd (by have := Cl.new (w.alloc (.cells #[.slice A0 cs0.length c0] 29)) (.slice A1 n1 c1) 29; simpa using this)
  go_enter Try.func4, Try.ntmps4
  go_wp2_with fail
  refine (szEngine_any A0 c0 cs0 1048576 _ (H0.out.below k0) hbig0 Hm0.out (by decide) (by decide)).mono ?_
  rintro e w1 ⟨r0, rfl, hr01, hr02, b1⟩
  have k1 := k0.trans (b1.mono k0.size)
  have Box1 := hd (Box1.out.below b1)
  clear b1
  obtain ⟨bx1, bx2, -⟩ := Box1.out
  rcases hr02 with rfl | ⟨hr00, -⟩
  · go_wp2
    go_ret
    exact ⟨rfl, k1⟩
  go_wp2_with fail
  refine (szEngine_big A1 c1 n1 r0 _ hx1 hx2 hr00 hr01).mono ?_
  rintro e w2 ⟨rfl, b2⟩
  have k2 := k1.trans (b2.mono k1.size)
  clear b2
  go_wp2
  go_ret
  exact ⟨rfl, k2⟩

set_option maxHeartbeats 20000000 in
theorem ExactAddEngines_walk (A0 : Option Addr) (c0 : Nat) (cs0 : List ByteArray) (A1 : Option Addr) (c1 : Nat) (cs1 : List ByteArray) (w : World) (h0 : SS w A0 cs0) (hbig0 : cs0.length ≤ 1048576) (hm0 : ∀ s ∈ cs0, s.size ≤ maxLen) (h1 : SS w A1 cs1) (hbig1 : cs1.length ≤ 1048576) (hm1 : ∀ s ∈ cs1, s.size ≤ maxLen) :
    Calls Try.prog 4 #[.agg #[.slice A0 cs0.length c0], .agg #[.slice A1 cs1.length c1]] w fun e w' => e = .returned (.bool true) ∧ Below w.heap.size w w' := by
  have H0 := hd h0
  have H1 := hd h1
  have Hm0 := hd hm0
  have Hm1 := hd hm1
  have Box1 : Hid (Cl ((w.alloc (.cells #[.slice A0 cs0.length c0] 29)).alloc (.cells #[.slice A1 cs1.length c1] 29)) (w.heap.size + 1) (.slice A1 cs1.length c1)) := hd (by have := Cl.new (w.alloc (.cells #[.slice A0 cs0.length c0] 29)) (.slice A1 cs1.length c1) 29; simpa using this)
  have Box0 := hd ((Cl.new w (.slice A0 cs0.length c0) 29).alloc (.cells #[.slice A1 cs1.length c1] 29))
  have k0 : Below w.heap.size w ((w.alloc (.cells #[.slice A0 cs0.length c0] 29)).alloc (.cells #[.slice A1 cs1.length c1] 29)) := (((Below.refl w.heap.size w).alloc (by simp) _).alloc (by simp) _)
  clear h0 h1 hm0 hm1
  go_enter Try.func4, Try.ntmps4
  go_wp2_with fail
  refine (szEngine_any A0 c0 cs0 1048576 _ (H0.out.below k0) hbig0 Hm0.out (by decide) (by decide)).mono ?_
  rintro e w1 ⟨r0, rfl, hr01, hr02, b1⟩
  have Box0 := hd (Box0.out.below b1)
  have Box1 := hd (Box1.out.below b1)
  have S1 := hd b1.size
  have k1 := k0.trans (b1.mono k0.size)
  clear b1
  obtain ⟨box01, box02, -⟩ := Box0.out
  obtain ⟨box11, box12, -⟩ := Box1.out
  rcases hr02 with rfl | ⟨hr00, hsh0⟩
  · go_wp2
    go_ret
    exact ⟨rfl, k1⟩
  have Hsh0 := hd hsh0
  clear hsh0
  go_wp2_with fail
  refine (szEngine_any A1 c1 cs1 r0 _ (H1.out.below k1) hbig1 Hm1.out hr00 hr01).mono ?_
  rintro e w2 ⟨r1, rfl, hr11, hr12, b2⟩
  clear box01 box02 box11 box12
  have Box0 := hd (Box0.out.below b2)
  have Box1 := hd (Box1.out.below b2)
  have S2 := hd b2.size
  have k2 := k1.trans (b2.mono k1.size)
  clear b2
  obtain ⟨box01, box02, -⟩ := Box0.out
  obtain ⟨box11, box12, -⟩ := Box1.out
  rcases hr12 with rfl | ⟨hr10, hsh1⟩
  · go_wp2
    go_ret
    exact ⟨rfl, k2⟩
  have Hsh1 := hd hsh1
  clear hsh1
  obtain ⟨z, ok, Hz⟩ : ∃ z ok, Hid ((addF cs0 cs1).getD [] = z ∧ (addF cs0 cs1).isSome = ok) := ⟨_, _, hd ⟨rfl, rfl⟩⟩
  have Hzl : Hid (z.length ≤ 1048576) := hd (addF_length Hz.out.1)
  obtain ⟨m, Hm_, hm0⟩ : ∃ m : Int, Hid (((1 + z.length : Nat) : Int) = m) ∧ ¬ m < 0 := ⟨_, hd rfl, by omega⟩
  obtain ⟨m0, Hmx0, hm00⟩ : ∃ m : Int, Hid (((1 + cs0.length : Nat) : Int) = m) ∧ ¬ m < 0 := ⟨_, hd rfl, by omega⟩
  obtain ⟨m1, Hmx1, hm01⟩ : ∃ m : Int, Hid (((1 + cs0.length + cs1.length : Nat) : Int) = m) ∧ ¬ m < 0 := ⟨_, hd rfl, by omega⟩
  have hz2 : w.heap.size + 1 < w2.heap.size := Box1.out.2.2
  go_wp2
  go_region_held3 (fun w' => w'.cell? ⟨w.heap.size, 0, none⟩ = some (.slice A0 cs0.length c0) ∧ w'.cell? ⟨w.heap.size + 1, 0, none⟩ = some (.slice A1 cs1.length c1)) (first | exact ⟨box01, box11⟩ | exact ⟨(Box0.out.alloc _).1, (Box1.out.alloc _).1⟩ | exact ⟨(Box0.out.drew.alloc _).1, (Box1.out.drew.alloc _).1⟩ | exact ⟨cell_far box01 (by omega), cell_far box11 (by omega)⟩ | go_keep) (first | (go_simp; go_at_call 26; (first | (show Calls Try.prog 26 _ (World.alloc _ _) _; have Box0 := hd (Box0.out.alloc (.cells #[.slice none 0 0] 31)); have Box1 := hd (Box1.out.alloc (.cells #[.slice none 0 0] 31)); have T0 := hd (T0.out.alloc (.cells #[.slice none 0 0] 31)); have W0 := hd (Cl.new w3 (.slice none 0 0) 31); have k3 := k3.alloc k3.size (.cells #[.slice none 0 0] 31); refine (toEngine_any A1 c1 _ cs1 _ (H1.out.below k3) rfl hbig1).mono ?_) | refine (toEngine_any A1 c1 _ cs1 _ (H1.out.below k3) rfl hbig1).mono ?_); rintro e w4 ⟨B4, d4, rfl, own4, b4⟩; clear box01 box02 box11 box12; have Box0 := hd (Box0.out.below b4); have Box1 := hd (Box1.out.below b4); have T0 := hd (T0.out.below b4); (try (have W0 := hd (W0.out.below b4); obtain ⟨w0c, w0f, -⟩ := W0.out)); have S4 := hd b4.size; have k4 := k3.trans (b4.mono k3.size); have IT1 := hd (In.of own4); have T1 := hd own4; clear own4; clear b4; have hz4 : w.heap.size + 1 < w4.heap.size := Box1.out.2.2; obtain ⟨box01, box02, -⟩ := Box0.out; obtain ⟨box11, box12, -⟩ := Box1.out) | (go_simp; go_at_call 26; (first | (show Calls Try.prog 26 _ (World.drew (World.alloc _ _)) _; have Box0 := hd (Box0.out.alloc (.cells #[.slice none 0 0] 31)); have Box1 := hd (Box1.out.alloc (.cells #[.slice none 0 0] 31)); have W0 := hd (Cl.new w2 (.slice none 0 0) 31); have k2 := k2.alloc k2.size (.cells #[.slice none 0 0] 31); refine (toEngine_any A0 c0 _ cs0 _ (H0.out.below (k2.drew)) rfl hbig0).mono ?_) | refine (toEngine_any A0 c0 _ cs0 _ (H0.out.below (k2.drew)) rfl hbig0).mono ?_); rintro e w3 ⟨B3, d3, rfl, own3, b3⟩; clear box01 box02 box11 box12; have Box0 := hd (Box0.out.drew.below b3); have Box1 := hd (Box1.out.drew.below b3); (try (have W0 := hd (W0.out.drew.below b3); obtain ⟨w0c, w0f, -⟩ := W0.out)); have S3 := hd b3.size; have k3 := k2.drew.trans (b3.mono k2.size); have IT0 := hd (In.of own3); have T0 := hd own3; clear own3; clear b3; have hz3 : w.heap.size + 1 < w3.heap.size := Box1.out.2.2; obtain ⟨box01, box02, -⟩ := Box0.out; obtain ⟨box11, box12, -⟩ := Box1.out) | (go_simp; go_at_call 25; (first | (show Calls Try.prog 25 _ (World.alloc _ _) _; have Box0 := hd (Box0.out.alloc (.cells #[.slice none 0 0] 31)); have Box1 := hd (Box1.out.alloc (.cells #[.slice none 0 0] 31)); have T0 := hd (T0.out.alloc (.cells #[.slice none 0 0] 31)); have T1 := hd (T1.out.alloc (.cells #[.slice none 0 0] 31)); have W0 := hd (Cl.new w4 (.slice none 0 0) 31); have k4 := k4.alloc k4.size (.cells #[.slice none 0 0] 31); refine (sAddEngines_z B3 d3 _ cs0 B4 d4 _ cs1 z ok _ rfl T0.out.sg Hsh0.out rfl T1.out.sg Hsh1.out Hz.out).mono ?_) | refine (sAddEngines_z B3 d3 _ cs0 B4 d4 _ cs1 z ok _ rfl T0.out.sg Hsh0.out rfl T1.out.sg Hsh1.out Hz.out).mono ?_); rintro e w5 ⟨B5, d5, rfl, own5, b5⟩; clear box01 box02 box11 box12; have Box0 := hd (Box0.out.below b5); have Box1 := hd (Box1.out.below b5); have T0 := hd (T0.out.below b5); have T1 := hd (T1.out.below b5); (try (have W0 := hd (W0.out.below b5); obtain ⟨w0c, w0f, -⟩ := W0.out)); have S5 := hd b5.size; have k5 := k4.trans (b5.mono k4.size); have ILW := hd (In.of own5); have LW := hd own5; clear own5; clear b5; have hz5 : w.heap.size + 1 < w5.heap.size := Box1.out.2.2; obtain ⟨box01, box02, -⟩ := Box0.out; obtain ⟨box11, box12, -⟩ := Box1.out))
  all_goals
    clear T0 T1
    clear box01 box02 box11 box12
    (first | (have W0 := hd (Cl.new w5 (.slice B5 z.length d5) 31); have Box0 := hd (Box0.out.alloc (.cells #[.slice B5 z.length d5] 31)); have Box1 := hd (Box1.out.alloc (.cells #[.slice B5 z.length d5] 31)); have LW := hd (LW.out.alloc (.cells #[.slice B5 z.length d5] 31)); have kf := k5.alloc k5.size (.cells #[.slice B5 z.length d5] 31); have Sf : Hid (w5.heap.size ≤ (w5.alloc (.cells #[.slice B5 z.length d5] 31)).heap.size) := hd (by simp); have Sg : Hid (w5.heap.size < (w5.alloc (.cells #[.slice B5 z.length d5] 31)).heap.size) := hd (by simp); obtain ⟨wf, hwf⟩ : ∃ wf, wf = (w5.alloc (.cells #[.slice B5 z.length d5] 31)) := ⟨_, rfl⟩; rw [← hwf] at W0 kf Sf Sg Box0 Box1 LW ⊢; obtain ⟨gW, hgW⟩ : ∃ gW, gW = w5.heap.size := ⟨_, rfl⟩; rw [← hgW] at W0 Sg ⊢) | (have W0 : Hid (Cl (w5.setCell ⟨w2.heap.size, 0, none⟩ (.slice B5 z.length d5)) w2.heap.size (.slice B5 z.length d5)) := hd (cl_put W0.out (.slice B5 z.length d5)); have qa := S3.out; have qb := S4.out; have qc := S5.out; simp only [sz_alloc, sz_drew] at qa qb qc; have Box0 := hd (Box0.out.other (grown_set w5 ⟨w2.heap.size, 0, none⟩ (.slice B5 z.length d5)) (by simp <;> omega)); have Box1 := hd (Box1.out.other (grown_set w5 ⟨w2.heap.size, 0, none⟩ (.slice B5 z.length d5)) (by simp <;> omega)); have LW := hd (LW.out.keep_lo (grown_set w5 ⟨w2.heap.size, 0, none⟩ (.slice B5 z.length d5)) (fun r hr => by simp at hr; (try simp only [sz_alloc]); omega)); have kf := k5.setCell (p := ⟨w2.heap.size, 0, none⟩) (show w.heap.size ≤ w2.heap.size by omega) (.slice B5 z.length d5); have Sf : Hid (w5.heap.size ≤ (w5.setCell ⟨w2.heap.size, 0, none⟩ (.slice B5 z.length d5)).heap.size) := hd (by simp); have Sg : Hid (w2.heap.size < (w5.setCell ⟨w2.heap.size, 0, none⟩ (.slice B5 z.length d5)).heap.size) := hd (by simp; omega); obtain ⟨wf, hwf⟩ : ∃ wf, wf = (w5.setCell ⟨w2.heap.size, 0, none⟩ (.slice B5 z.length d5)) := ⟨_, rfl⟩; rw [← hwf] at W0 kf Sf Sg Box0 Box1 LW ⊢; obtain ⟨gW, hgW⟩ : ∃ gW, gW = w2.heap.size := ⟨_, rfl⟩; rw [← hgW] at W0 Sg ⊢) | (have W0 : Hid (Cl (w5.setCell ⟨w3.heap.size, 0, none⟩ (.slice B5 z.length d5)) w3.heap.size (.slice B5 z.length d5)) := hd (cl_put W0.out (.slice B5 z.length d5)); have qa := S3.out; have qb := S4.out; have qc := S5.out; simp only [sz_alloc, sz_drew] at qa qb qc; have Box0 := hd (Box0.out.other (grown_set w5 ⟨w3.heap.size, 0, none⟩ (.slice B5 z.length d5)) (by simp <;> omega)); have Box1 := hd (Box1.out.other (grown_set w5 ⟨w3.heap.size, 0, none⟩ (.slice B5 z.length d5)) (by simp <;> omega)); have LW := hd (LW.out.keep_lo (grown_set w5 ⟨w3.heap.size, 0, none⟩ (.slice B5 z.length d5)) (fun r hr => by simp at hr; (try simp only [sz_alloc]); omega)); have kf := k5.setCell (p := ⟨w3.heap.size, 0, none⟩) (show w.heap.size ≤ w3.heap.size by omega) (.slice B5 z.length d5); have Sf : Hid (w5.heap.size ≤ (w5.setCell ⟨w3.heap.size, 0, none⟩ (.slice B5 z.length d5)).heap.size) := hd (by simp); have Sg : Hid (w3.heap.size < (w5.setCell ⟨w3.heap.size, 0, none⟩ (.slice B5 z.length d5)).heap.size) := hd (by simp; omega); obtain ⟨wf, hwf⟩ : ∃ wf, wf = (w5.setCell ⟨w3.heap.size, 0, none⟩ (.slice B5 z.length d5)) := ⟨_, rfl⟩; rw [← hwf] at W0 kf Sf Sg Box0 Box1 LW ⊢; obtain ⟨gW, hgW⟩ : ∃ gW, gW = w3.heap.size := ⟨_, rfl⟩; rw [← hgW] at W0 Sg ⊢) | (have W0 : Hid (Cl (w5.setCell ⟨w4.heap.size, 0, none⟩ (.slice B5 z.length d5)) w4.heap.size (.slice B5 z.length d5)) := hd (cl_put W0.out (.slice B5 z.length d5)); have qa := S3.out; have qb := S4.out; have qc := S5.out; simp only [sz_alloc, sz_drew] at qa qb qc; have Box0 := hd (Box0.out.other (grown_set w5 ⟨w4.heap.size, 0, none⟩ (.slice B5 z.length d5)) (by simp <;> omega)); have Box1 := hd (Box1.out.other (grown_set w5 ⟨w4.heap.size, 0, none⟩ (.slice B5 z.length d5)) (by simp <;> omega)); have LW := hd (LW.out.keep_lo (grown_set w5 ⟨w4.heap.size, 0, none⟩ (.slice B5 z.length d5)) (fun r hr => by simp at hr; (try simp only [sz_alloc]); omega)); have kf := k5.setCell (p := ⟨w4.heap.size, 0, none⟩) (show w.heap.size ≤ w4.heap.size by omega) (.slice B5 z.length d5); have Sf : Hid (w5.heap.size ≤ (w5.setCell ⟨w4.heap.size, 0, none⟩ (.slice B5 z.length d5)).heap.size) := hd (by simp); have Sg : Hid (w4.heap.size < (w5.setCell ⟨w4.heap.size, 0, none⟩ (.slice B5 z.length d5)).heap.size) := hd (by simp; omega); obtain ⟨wf, hwf⟩ : ∃ wf, wf = (w5.setCell ⟨w4.heap.size, 0, none⟩ (.slice B5 z.length d5)) := ⟨_, rfl⟩; rw [← hwf] at W0 kf Sf Sg Box0 Box1 LW ⊢; obtain ⟨gW, hgW⟩ : ∃ gW, gW = w4.heap.size := ⟨_, rfl⟩; rw [← hgW] at W0 Sg ⊢))
    clear hgW hwf
    obtain ⟨box01, box02, -⟩ := Box0.out
    obtain ⟨box11, box12, -⟩ := Box1.out
    obtain ⟨w01, w02, -⟩ := W0.out
    go_wp2_with fail
    refine (toEngine_any A0 c0 _ cs0 _ (H0.out.below kf) rfl hbig0).mono ?_
    rintro e w6 ⟨B6, d6, rfl, own6, b6⟩
    clear box01 box02 box11 box12 w01 w02
    have Box0 := hd (Box0.out.below b6)
    have Box1 := hd (Box1.out.below b6)
    have W0 := hd (W0.out.below b6)
    have LW := hd (LW.out.below b6)
    have S6 := hd b6.size
    have k6 := kf.trans (b6.mono kf.size)
    have ILX0 := hd (In.of own6)
    have LX0 := hd own6
    clear own6
    clear b6
    obtain ⟨box01, box02, -⟩ := Box0.out
    obtain ⟨box11, box12, -⟩ := Box1.out
    obtain ⟨w01, w02, -⟩ := W0.out
    clear box01 box02 box11 box12 w01 w02
    have X0 := hd (Cl.new w6 (.slice B6 cs0.length d6) 31)
    have Box0 := hd (Box0.out.alloc (.cells #[.slice B6 cs0.length d6] 31))
    have Box1 := hd (Box1.out.alloc (.cells #[.slice B6 cs0.length d6] 31))
    have W0 := hd (W0.out.alloc (.cells #[.slice B6 cs0.length d6] 31))
    have LW := hd (LW.out.alloc (.cells #[.slice B6 cs0.length d6] 31))
    have LX0 := hd (LX0.out.alloc (.cells #[.slice B6 cs0.length d6] 31))
    have k6 := k6.alloc k6.size (.cells #[.slice B6 cs0.length d6] 31)
    obtain ⟨box01, box02, -⟩ := Box0.out
    obtain ⟨box11, box12, -⟩ := Box1.out
    obtain ⟨w01, w02, -⟩ := W0.out
    obtain ⟨x01, x02, -⟩ := X0.out
    go_wp2_with fail
    refine (toEngine_any A1 c1 _ cs1 _ (H1.out.below k6) rfl hbig1).mono ?_
    rintro e w7 ⟨B7, d7, rfl, own7, b7⟩
    clear box01 box02 box11 box12 w01 w02 x01 x02
    have Box0 := hd (Box0.out.below b7)
    have Box1 := hd (Box1.out.below b7)
    have W0 := hd (W0.out.below b7)
    have X0 := hd (X0.out.below b7)
    have LW := hd (LW.out.below b7)
    have LX0 := hd (LX0.out.below b7)
    have S7 := hd b7.size
    have k7 := k6.trans (b7.mono k6.size)
    have ILX1 := hd (In.of own7)
    have LX1 := hd own7
    clear own7
    clear b7
    obtain ⟨box01, box02, -⟩ := Box0.out
    obtain ⟨box11, box12, -⟩ := Box1.out
    obtain ⟨w01, w02, -⟩ := W0.out
    obtain ⟨x01, x02, -⟩ := X0.out
    clear box01 box02 box11 box12 w01 w02 x01 x02
    have X1 := hd (Cl.new w7 (.slice B7 cs1.length d7) 31)
    have Box0 := hd (Box0.out.alloc (.cells #[.slice B7 cs1.length d7] 31))
    have Box1 := hd (Box1.out.alloc (.cells #[.slice B7 cs1.length d7] 31))
    have W0 := hd (W0.out.alloc (.cells #[.slice B7 cs1.length d7] 31))
    have X0 := hd (X0.out.alloc (.cells #[.slice B7 cs1.length d7] 31))
    have LW := hd (LW.out.alloc (.cells #[.slice B7 cs1.length d7] 31))
    have LX0 := hd (LX0.out.alloc (.cells #[.slice B7 cs1.length d7] 31))
    have LX1 := hd (LX1.out.alloc (.cells #[.slice B7 cs1.length d7] 31))
    have k7 := k7.alloc k7.size (.cells #[.slice B7 cs1.length d7] 31)
    obtain ⟨box01, box02, -⟩ := Box0.out
    obtain ⟨box11, box12, -⟩ := Box1.out
    obtain ⟨w01, w02, -⟩ := W0.out
    obtain ⟨x01, x02, -⟩ := X0.out
    obtain ⟨x11, x12, -⟩ := X1.out
    go_wp2_with fail
    refine (AddEngines_z  B6 d6 _ cs0 B7 d7 _ cs1 z ok _ rfl LX0.out.sg Hsh0.out rfl LX1.out.sg Hsh1.out Hz.out).mono ?_
    rintro e w8 ⟨B8, d8, rfl, own8, b8⟩
    clear box01 box02 box11 box12 w01 w02 x01 x02 x11 x12
    have Box0 := hd (Box0.out.below b8)
    have Box1 := hd (Box1.out.below b8)
    have W0 := hd (W0.out.below b8)
    have X0 := hd (X0.out.below b8)
    have X1 := hd (X1.out.below b8)
    have LW := hd (LW.out.below b8)
    have LX0 := hd (LX0.out.below b8)
    have LX1 := hd (LX1.out.below b8)
    have S8 := hd b8.size
    have k8 := k7.trans (b8.mono k7.size)
    have ILG := hd (In.of own8)
    have LG := hd own8
    clear own8
    clear b8
    obtain ⟨box01, box02, -⟩ := Box0.out
    obtain ⟨box11, box12, -⟩ := Box1.out
    obtain ⟨w01, w02, -⟩ := W0.out
    obtain ⟨x01, x02, -⟩ := X0.out
    obtain ⟨x11, x12, -⟩ := X1.out
    clear box01 box02 box11 box12 w01 w02 x01 x02 x11 x12
    have G0 := hd (Cl.new w8 (.slice B8 z.length d8) 31)
    have Box0 := hd (Box0.out.alloc (.cells #[.slice B8 z.length d8] 31))
    have Box1 := hd (Box1.out.alloc (.cells #[.slice B8 z.length d8] 31))
    have W0 := hd (W0.out.alloc (.cells #[.slice B8 z.length d8] 31))
    have X0 := hd (X0.out.alloc (.cells #[.slice B8 z.length d8] 31))
    have X1 := hd (X1.out.alloc (.cells #[.slice B8 z.length d8] 31))
    have LW := hd (LW.out.alloc (.cells #[.slice B8 z.length d8] 31))
    have LX0 := hd (LX0.out.alloc (.cells #[.slice B8 z.length d8] 31))
    have LX1 := hd (LX1.out.alloc (.cells #[.slice B8 z.length d8] 31))
    have LG := hd (LG.out.alloc (.cells #[.slice B8 z.length d8] 31))
    have k8 := k8.alloc k8.size (.cells #[.slice B8 z.length d8] 31)
    obtain ⟨box01, box02, -⟩ := Box0.out
    obtain ⟨box11, box12, -⟩ := Box1.out
    obtain ⟨w01, w02, -⟩ := W0.out
    obtain ⟨x01, x02, -⟩ := X0.out
    obtain ⟨x11, x12, -⟩ := X1.out
    obtain ⟨g01, g02, -⟩ := G0.out
    go_wp2_with fail
    refine (eqEngine_same _ B8 B5 d8 d5 z _ rfl LG.out.sg LW.out.sg).mono ?_
    rintro e w9 ⟨rfl, b9⟩
    clear box01 box02 box11 box12 w01 w02 x01 x02 x11 x12 g01 g02
    have Box0 := hd (Box0.out.below b9)
    have Box1 := hd (Box1.out.below b9)
    have W0 := hd (W0.out.below b9)
    have X0 := hd (X0.out.below b9)
    have X1 := hd (X1.out.below b9)
    have G0 := hd (G0.out.below b9)
    have LW := hd (LW.out.below b9)
    have LX0 := hd (LX0.out.below b9)
    have LX1 := hd (LX1.out.below b9)
    have LG := hd (LG.out.below b9)
    have S9 := hd b9.size
    have k9 := k8.trans (b9.mono k8.size)
    clear b9
    obtain ⟨box01, box02, -⟩ := Box0.out
    obtain ⟨box11, box12, -⟩ := Box1.out
    obtain ⟨w01, w02, -⟩ := W0.out
    obtain ⟨x01, x02, -⟩ := X0.out
    obtain ⟨x11, x12, -⟩ := X1.out
    obtain ⟨g01, g02, -⟩ := G0.out
    go_wp2
    go_region_held3 (fun w' => w'.cell? ⟨w.heap.size, 0, none⟩ = some (.slice A0 cs0.length c0) ∧ w'.cell? ⟨w6.heap.size, 0, none⟩ = some (.slice B6 cs0.length d6)) (first | exact ⟨box01, x01⟩ | exact ⟨(Box0.out.alloc _).1, (X0.out.alloc _).1⟩ | go_keep) (first | (go_simp; go_at_call 28; refine (eqEngine_same _ B6 B10 d6 d10 cs0 _ rfl LX0.out.sg TT0.out.sg).mono ?_; rintro e w11 ⟨rfl, b11⟩; clear box01 box02 box11 box12 w01 w02 x01 x02 x11 x12 g01 g02; have Box0 := hd (Box0.out.below b11); have Box1 := hd (Box1.out.below b11); have W0 := hd (W0.out.below b11); have X0 := hd (X0.out.below b11); have X1 := hd (X1.out.below b11); have G0 := hd (G0.out.below b11); have LW := hd (LW.out.below b11); have LX0 := hd (LX0.out.below b11); have LX1 := hd (LX1.out.below b11); have LG := hd (LG.out.below b11); have TT0 := hd (TT0.out.below b11); have S11 := hd b11.size; have k11 := k10.trans (b11.mono k10.size); clear b11; obtain ⟨box01, box02, -⟩ := Box0.out; obtain ⟨box11, box12, -⟩ := Box1.out; obtain ⟨w01, w02, -⟩ := W0.out; obtain ⟨x01, x02, -⟩ := X0.out; obtain ⟨x11, x12, -⟩ := X1.out; obtain ⟨g01, g02, -⟩ := G0.out) | (go_simp; go_at_call 26; refine (toEngine_any A0 c0 _ cs0 _ (H0.out.below (k9.drew)) rfl hbig0).mono ?_; rintro e w10 ⟨B10, d10, rfl, own10, b10⟩; clear box01 box02 box11 box12 w01 w02 x01 x02 x11 x12 g01 g02; have Box0 := hd (Box0.out.drew.below b10); have Box1 := hd (Box1.out.drew.below b10); have W0 := hd (W0.out.drew.below b10); have X0 := hd (X0.out.drew.below b10); have X1 := hd (X1.out.drew.below b10); have G0 := hd (G0.out.drew.below b10); have LW := hd (LW.out.drew.below b10); have LX0 := hd (LX0.out.drew.below b10); have LX1 := hd (LX1.out.drew.below b10); have LG := hd (LG.out.drew.below b10); have S10 := hd b10.size; have k10 := k9.drew.trans (b10.mono k9.size); have ITT0 := hd (In.of own10); have TT0 := hd own10; clear own10; clear b10; obtain ⟨box01, box02, -⟩ := Box0.out; obtain ⟨box11, box12, -⟩ := Box1.out; obtain ⟨w01, w02, -⟩ := W0.out; obtain ⟨x01, x02, -⟩ := X0.out; obtain ⟨x11, x12, -⟩ := X1.out; obtain ⟨g01, g02, -⟩ := G0.out))
    clear box01 box02 box11 box12 w01 w02 x01 x02 x11 x12 g01 g02
    clear TT0
    obtain ⟨box01, box02, -⟩ := Box0.out
    obtain ⟨box11, box12, -⟩ := Box1.out
    obtain ⟨w01, w02, -⟩ := W0.out
    obtain ⟨x01, x02, -⟩ := X0.out
    obtain ⟨x11, x12, -⟩ := X1.out
    obtain ⟨g01, g02, -⟩ := G0.out
    go_wp2
    go_region_held3 (fun w' => w'.cell? ⟨w.heap.size + 1, 0, none⟩ = some (.slice A1 cs1.length c1) ∧ w'.cell? ⟨w7.heap.size, 0, none⟩ = some (.slice B7 cs1.length d7)) (first | exact ⟨box11, x11⟩ | exact ⟨(Box1.out.alloc _).1, (X1.out.alloc _).1⟩ | go_keep) (first | (go_simp; go_at_call 28; refine (eqEngine_same _ B7 B12 d7 d12 cs1 _ rfl LX1.out.sg TT1.out.sg).mono ?_; rintro e w13 ⟨rfl, b13⟩; clear box01 box02 box11 box12 w01 w02 x01 x02 x11 x12 g01 g02; have Box0 := hd (Box0.out.below b13); have Box1 := hd (Box1.out.below b13); have W0 := hd (W0.out.below b13); have X0 := hd (X0.out.below b13); have X1 := hd (X1.out.below b13); have G0 := hd (G0.out.below b13); have LW := hd (LW.out.below b13); have LX0 := hd (LX0.out.below b13); have LX1 := hd (LX1.out.below b13); have LG := hd (LG.out.below b13); have TT1 := hd (TT1.out.below b13); have S13 := hd b13.size; have k13 := k12.trans (b13.mono k12.size); clear b13; obtain ⟨box01, box02, -⟩ := Box0.out; obtain ⟨box11, box12, -⟩ := Box1.out; obtain ⟨w01, w02, -⟩ := W0.out; obtain ⟨x01, x02, -⟩ := X0.out; obtain ⟨x11, x12, -⟩ := X1.out; obtain ⟨g01, g02, -⟩ := G0.out) | (go_simp; go_at_call 26; refine (toEngine_any A1 c1 _ cs1 _ (H1.out.below (k11.drew)) rfl hbig1).mono ?_; rintro e w12 ⟨B12, d12, rfl, own12, b12⟩; clear box01 box02 box11 box12 w01 w02 x01 x02 x11 x12 g01 g02; have Box0 := hd (Box0.out.drew.below b12); have Box1 := hd (Box1.out.drew.below b12); have W0 := hd (W0.out.drew.below b12); have X0 := hd (X0.out.drew.below b12); have X1 := hd (X1.out.drew.below b12); have G0 := hd (G0.out.drew.below b12); have LW := hd (LW.out.drew.below b12); have LX0 := hd (LX0.out.drew.below b12); have LX1 := hd (LX1.out.drew.below b12); have LG := hd (LG.out.drew.below b12); have S12 := hd b12.size; have k12 := k11.drew.trans (b12.mono k11.size); have ITT1 := hd (In.of own12); have TT1 := hd own12; clear own12; clear b12; obtain ⟨box01, box02, -⟩ := Box0.out; obtain ⟨box11, box12, -⟩ := Box1.out; obtain ⟨w01, w02, -⟩ := W0.out; obtain ⟨x01, x02, -⟩ := X0.out; obtain ⟨x11, x12, -⟩ := X1.out; obtain ⟨g01, g02, -⟩ := G0.out))
    clear box01 box02 box11 box12 w01 w02 x01 x02 x11 x12 g01 g02
    clear TT1
    obtain ⟨box01, box02, -⟩ := Box0.out
    obtain ⟨box11, box12, -⟩ := Box1.out
    obtain ⟨w01, w02, -⟩ := W0.out
    obtain ⟨x01, x02, -⟩ := X0.out
    obtain ⟨x11, x12, -⟩ := X1.out
    obtain ⟨g01, g02, -⟩ := G0.out
    go_wp2_with fail
    refine (markE _ cs0.length B6 d6 cs0 (1) 1 _ _ rfl LX0.out (by have q1 := S1.out; have q2 := S2.out; have q3 := S3.out; have q4 := S4.out; have q5 := S5.out; have q6 := S6.out; have q7 := S7.out; have q8 := S8.out; have q9 := S9.out; have q10 := S10.out; have q11 := S11.out; have q12 := S12.out; have q13 := S13.out; have qf := Sf.out; have qg := Sg.out; try simp only [sz_alloc, sz_drew] at q1 q2 q3 q4 q5 q6 q7 q8 q9 q10 q11 q12 q13 ⊢; omega) hbig0 rfl (by omega) (by omega) Hmx0.out).mono ?_
    rintro e w14 ⟨rfl, own14, b14, bs14⟩
    clear box01 box02 box11 box12 w01 w02 x01 x02 x11 x12 g01 g02
    have Box0 := hd (Box0.out.beside bs14 ILX0.out (by have q1 := S1.out; have q2 := S2.out; have q3 := S3.out; have q4 := S4.out; have q5 := S5.out; have q6 := S6.out; have q7 := S7.out; have q8 := S8.out; have q9 := S9.out; have q10 := S10.out; have q11 := S11.out; have q12 := S12.out; have q13 := S13.out; have qf := Sf.out; have qg := Sg.out; try simp only [sz_alloc, sz_drew] at q1 q2 q3 q4 q5 q6 q7 q8 q9 q10 q11 q12 q13 ⊢; omega))
    have Box1 := hd (Box1.out.beside bs14 ILX0.out (by have q1 := S1.out; have q2 := S2.out; have q3 := S3.out; have q4 := S4.out; have q5 := S5.out; have q6 := S6.out; have q7 := S7.out; have q8 := S8.out; have q9 := S9.out; have q10 := S10.out; have q11 := S11.out; have q12 := S12.out; have q13 := S13.out; have qf := Sf.out; have qg := Sg.out; try simp only [sz_alloc, sz_drew] at q1 q2 q3 q4 q5 q6 q7 q8 q9 q10 q11 q12 q13 ⊢; omega))
    have W0 := hd (W0.out.beside bs14 ILX0.out (by have q1 := S1.out; have q2 := S2.out; have q3 := S3.out; have q4 := S4.out; have q5 := S5.out; have q6 := S6.out; have q7 := S7.out; have q8 := S8.out; have q9 := S9.out; have q10 := S10.out; have q11 := S11.out; have q12 := S12.out; have q13 := S13.out; have qf := Sf.out; have qg := Sg.out; try simp only [sz_alloc, sz_drew] at q1 q2 q3 q4 q5 q6 q7 q8 q9 q10 q11 q12 q13 ⊢; omega))
    have X0 := hd (X0.out.beside bs14 ILX0.out (by have q1 := S1.out; have q2 := S2.out; have q3 := S3.out; have q4 := S4.out; have q5 := S5.out; have q6 := S6.out; have q7 := S7.out; have q8 := S8.out; have q9 := S9.out; have q10 := S10.out; have q11 := S11.out; have q12 := S12.out; have q13 := S13.out; have qf := Sf.out; have qg := Sg.out; try simp only [sz_alloc, sz_drew] at q1 q2 q3 q4 q5 q6 q7 q8 q9 q10 q11 q12 q13 ⊢; omega))
    have X1 := hd (X1.out.beside bs14 ILX0.out (by have q1 := S1.out; have q2 := S2.out; have q3 := S3.out; have q4 := S4.out; have q5 := S5.out; have q6 := S6.out; have q7 := S7.out; have q8 := S8.out; have q9 := S9.out; have q10 := S10.out; have q11 := S11.out; have q12 := S12.out; have q13 := S13.out; have qf := Sf.out; have qg := Sg.out; try simp only [sz_alloc, sz_drew] at q1 q2 q3 q4 q5 q6 q7 q8 q9 q10 q11 q12 q13 ⊢; omega))
    have G0 := hd (G0.out.beside bs14 ILX0.out (by have q1 := S1.out; have q2 := S2.out; have q3 := S3.out; have q4 := S4.out; have q5 := S5.out; have q6 := S6.out; have q7 := S7.out; have q8 := S8.out; have q9 := S9.out; have q10 := S10.out; have q11 := S11.out; have q12 := S12.out; have q13 := S13.out; have qf := Sf.out; have qg := Sg.out; try simp only [sz_alloc, sz_drew] at q1 q2 q3 q4 q5 q6 q7 q8 q9 q10 q11 q12 q13 ⊢; omega))
    have LW := hd (LW.out.beside_hi bs14 ILX0.out ILW.out (by have q1 := S1.out; have q2 := S2.out; have q3 := S3.out; have q4 := S4.out; have q5 := S5.out; have q6 := S6.out; have q7 := S7.out; have q8 := S8.out; have q9 := S9.out; have q10 := S10.out; have q11 := S11.out; have q12 := S12.out; have q13 := S13.out; have qf := Sf.out; have qg := Sg.out; try simp only [sz_alloc, sz_drew] at q1 q2 q3 q4 q5 q6 q7 q8 q9 q10 q11 q12 q13 ⊢; omega))
    have LX1 := hd (LX1.out.beside_lo bs14 ILX0.out (by have q1 := S1.out; have q2 := S2.out; have q3 := S3.out; have q4 := S4.out; have q5 := S5.out; have q6 := S6.out; have q7 := S7.out; have q8 := S8.out; have q9 := S9.out; have q10 := S10.out; have q11 := S11.out; have q12 := S12.out; have q13 := S13.out; have qf := Sf.out; have qg := Sg.out; try simp only [sz_alloc, sz_drew] at q1 q2 q3 q4 q5 q6 q7 q8 q9 q10 q11 q12 q13 ⊢; omega))
    have LG := hd (LG.out.beside_lo bs14 ILX0.out (by have q1 := S1.out; have q2 := S2.out; have q3 := S3.out; have q4 := S4.out; have q5 := S5.out; have q6 := S6.out; have q7 := S7.out; have q8 := S8.out; have q9 := S9.out; have q10 := S10.out; have q11 := S11.out; have q12 := S12.out; have q13 := S13.out; have qf := Sf.out; have qg := Sg.out; try simp only [sz_alloc, sz_drew] at q1 q2 q3 q4 q5 q6 q7 q8 q9 q10 q11 q12 q13 ⊢; omega))
    have S14 := hd b14.size
    have k14 := k13.trans (b14.mono (by have q1 := S1.out; have q2 := S2.out; have q3 := S3.out; have q4 := S4.out; have q5 := S5.out; have q6 := S6.out; have q7 := S7.out; have q8 := S8.out; have q9 := S9.out; have q10 := S10.out; have q11 := S11.out; have q12 := S12.out; have q13 := S13.out; have qf := Sf.out; have qg := Sg.out; try simp only [sz_alloc, sz_drew] at q1 q2 q3 q4 q5 q6 q7 q8 q9 q10 q11 q12 q13 ⊢; omega))
    have LX0 := hd own14
    clear own14 b14 bs14
    obtain ⟨box01, box02, -⟩ := Box0.out
    obtain ⟨box11, box12, -⟩ := Box1.out
    obtain ⟨w01, w02, -⟩ := W0.out
    obtain ⟨x01, x02, -⟩ := X0.out
    obtain ⟨x11, x12, -⟩ := X1.out
    obtain ⟨g01, g02, -⟩ := G0.out
    clear box01 box02 box11 box12 w01 w02 x01 x02 x11 x12 g01 g02
    clear LX0 X0
    obtain ⟨box01, box02, -⟩ := Box0.out
    obtain ⟨box11, box12, -⟩ := Box1.out
    obtain ⟨w01, w02, -⟩ := W0.out
    obtain ⟨x11, x12, -⟩ := X1.out
    obtain ⟨g01, g02, -⟩ := G0.out
    go_wp2_with fail
    refine (markE _ cs1.length B7 d7 cs1 (1 + cs0.length) m0 _ _ rfl LX1.out (by have q1 := S1.out; have q2 := S2.out; have q3 := S3.out; have q4 := S4.out; have q5 := S5.out; have q6 := S6.out; have q7 := S7.out; have q8 := S8.out; have q9 := S9.out; have q10 := S10.out; have q11 := S11.out; have q12 := S12.out; have q13 := S13.out; have q14 := S14.out; have qf := Sf.out; have qg := Sg.out; try simp only [sz_alloc, sz_drew] at q1 q2 q3 q4 q5 q6 q7 q8 q9 q10 q11 q12 q13 q14 ⊢; omega) hbig1 Hmx0.out (by omega) (by omega) Hmx1.out).mono ?_
    rintro e w15 ⟨rfl, own15, b15, bs15⟩
    clear box01 box02 box11 box12 w01 w02 x11 x12 g01 g02
    have Box0 := hd (Box0.out.beside bs15 ILX1.out (by have q1 := S1.out; have q2 := S2.out; have q3 := S3.out; have q4 := S4.out; have q5 := S5.out; have q6 := S6.out; have q7 := S7.out; have q8 := S8.out; have q9 := S9.out; have q10 := S10.out; have q11 := S11.out; have q12 := S12.out; have q13 := S13.out; have q14 := S14.out; have qf := Sf.out; have qg := Sg.out; try simp only [sz_alloc, sz_drew] at q1 q2 q3 q4 q5 q6 q7 q8 q9 q10 q11 q12 q13 q14 ⊢; omega))
    have Box1 := hd (Box1.out.beside bs15 ILX1.out (by have q1 := S1.out; have q2 := S2.out; have q3 := S3.out; have q4 := S4.out; have q5 := S5.out; have q6 := S6.out; have q7 := S7.out; have q8 := S8.out; have q9 := S9.out; have q10 := S10.out; have q11 := S11.out; have q12 := S12.out; have q13 := S13.out; have q14 := S14.out; have qf := Sf.out; have qg := Sg.out; try simp only [sz_alloc, sz_drew] at q1 q2 q3 q4 q5 q6 q7 q8 q9 q10 q11 q12 q13 q14 ⊢; omega))
    have W0 := hd (W0.out.beside bs15 ILX1.out (by have q1 := S1.out; have q2 := S2.out; have q3 := S3.out; have q4 := S4.out; have q5 := S5.out; have q6 := S6.out; have q7 := S7.out; have q8 := S8.out; have q9 := S9.out; have q10 := S10.out; have q11 := S11.out; have q12 := S12.out; have q13 := S13.out; have q14 := S14.out; have qf := Sf.out; have qg := Sg.out; try simp only [sz_alloc, sz_drew] at q1 q2 q3 q4 q5 q6 q7 q8 q9 q10 q11 q12 q13 q14 ⊢; omega))
    have X1 := hd (X1.out.beside bs15 ILX1.out (by have q1 := S1.out; have q2 := S2.out; have q3 := S3.out; have q4 := S4.out; have q5 := S5.out; have q6 := S6.out; have q7 := S7.out; have q8 := S8.out; have q9 := S9.out; have q10 := S10.out; have q11 := S11.out; have q12 := S12.out; have q13 := S13.out; have q14 := S14.out; have qf := Sf.out; have qg := Sg.out; try simp only [sz_alloc, sz_drew] at q1 q2 q3 q4 q5 q6 q7 q8 q9 q10 q11 q12 q13 q14 ⊢; omega))
    have G0 := hd (G0.out.beside bs15 ILX1.out (by have q1 := S1.out; have q2 := S2.out; have q3 := S3.out; have q4 := S4.out; have q5 := S5.out; have q6 := S6.out; have q7 := S7.out; have q8 := S8.out; have q9 := S9.out; have q10 := S10.out; have q11 := S11.out; have q12 := S12.out; have q13 := S13.out; have q14 := S14.out; have qf := Sf.out; have qg := Sg.out; try simp only [sz_alloc, sz_drew] at q1 q2 q3 q4 q5 q6 q7 q8 q9 q10 q11 q12 q13 q14 ⊢; omega))
    have LW := hd (LW.out.beside_hi bs15 ILX1.out ILW.out (by have q1 := S1.out; have q2 := S2.out; have q3 := S3.out; have q4 := S4.out; have q5 := S5.out; have q6 := S6.out; have q7 := S7.out; have q8 := S8.out; have q9 := S9.out; have q10 := S10.out; have q11 := S11.out; have q12 := S12.out; have q13 := S13.out; have q14 := S14.out; have qf := Sf.out; have qg := Sg.out; try simp only [sz_alloc, sz_drew] at q1 q2 q3 q4 q5 q6 q7 q8 q9 q10 q11 q12 q13 q14 ⊢; omega))
    have LG := hd (LG.out.beside_lo bs15 ILX1.out (by have q1 := S1.out; have q2 := S2.out; have q3 := S3.out; have q4 := S4.out; have q5 := S5.out; have q6 := S6.out; have q7 := S7.out; have q8 := S8.out; have q9 := S9.out; have q10 := S10.out; have q11 := S11.out; have q12 := S12.out; have q13 := S13.out; have q14 := S14.out; have qf := Sf.out; have qg := Sg.out; try simp only [sz_alloc, sz_drew] at q1 q2 q3 q4 q5 q6 q7 q8 q9 q10 q11 q12 q13 q14 ⊢; omega))
    have S15 := hd b15.size
    have k15 := k14.trans (b15.mono (by have q1 := S1.out; have q2 := S2.out; have q3 := S3.out; have q4 := S4.out; have q5 := S5.out; have q6 := S6.out; have q7 := S7.out; have q8 := S8.out; have q9 := S9.out; have q10 := S10.out; have q11 := S11.out; have q12 := S12.out; have q13 := S13.out; have q14 := S14.out; have qf := Sf.out; have qg := Sg.out; try simp only [sz_alloc, sz_drew] at q1 q2 q3 q4 q5 q6 q7 q8 q9 q10 q11 q12 q13 q14 ⊢; omega))
    have LX1 := hd own15
    clear own15 b15 bs15
    obtain ⟨box01, box02, -⟩ := Box0.out
    obtain ⟨box11, box12, -⟩ := Box1.out
    obtain ⟨w01, w02, -⟩ := W0.out
    obtain ⟨x11, x12, -⟩ := X1.out
    obtain ⟨g01, g02, -⟩ := G0.out
    clear box01 box02 box11 box12 w01 w02 x11 x12 g01 g02
    clear LX1 X1
    obtain ⟨box01, box02, -⟩ := Box0.out
    obtain ⟨box11, box12, -⟩ := Box1.out
    obtain ⟨w01, w02, -⟩ := W0.out
    obtain ⟨g01, g02, -⟩ := G0.out
    go_wp2_with fail
    refine (eqEngine_same _ B8 B5 d8 d5 z _ rfl LG.out.sg LW.out.sg).mono ?_
    rintro e w16 ⟨rfl, b16⟩
    clear box01 box02 box11 box12 w01 w02 g01 g02
    have Box0 := hd (Box0.out.below b16)
    have Box1 := hd (Box1.out.below b16)
    have W0 := hd (W0.out.below b16)
    have G0 := hd (G0.out.below b16)
    have LW := hd (LW.out.below b16)
    have LG := hd (LG.out.below b16)
    have S16 := hd b16.size
    have k16 := k15.trans (b16.mono k15.size)
    clear b16
    obtain ⟨box01, box02, -⟩ := Box0.out
    obtain ⟨box11, box12, -⟩ := Box1.out
    obtain ⟨w01, w02, -⟩ := W0.out
    obtain ⟨g01, g02, -⟩ := G0.out
    go_wp2_with fail
    refine (markE _ z.length B8 d8 z (1) 1 _ _ rfl LG.out (by have q1 := S1.out; have q2 := S2.out; have q3 := S3.out; have q4 := S4.out; have q5 := S5.out; have q6 := S6.out; have q7 := S7.out; have q8 := S8.out; have q9 := S9.out; have q10 := S10.out; have q11 := S11.out; have q12 := S12.out; have q13 := S13.out; have q14 := S14.out; have q15 := S15.out; have q16 := S16.out; have qf := Sf.out; have qg := Sg.out; try simp only [sz_alloc, sz_drew] at q1 q2 q3 q4 q5 q6 q7 q8 q9 q10 q11 q12 q13 q14 q15 q16 ⊢; omega) Hzl.out rfl (by omega) (by omega) Hm_.out).mono ?_
    rintro e w17 ⟨rfl, own17, b17, bs17⟩
    clear box01 box02 box11 box12 w01 w02 g01 g02
    have Box0 := hd (Box0.out.beside bs17 ILG.out (by have q1 := S1.out; have q2 := S2.out; have q3 := S3.out; have q4 := S4.out; have q5 := S5.out; have q6 := S6.out; have q7 := S7.out; have q8 := S8.out; have q9 := S9.out; have q10 := S10.out; have q11 := S11.out; have q12 := S12.out; have q13 := S13.out; have q14 := S14.out; have q15 := S15.out; have q16 := S16.out; have qf := Sf.out; have qg := Sg.out; try simp only [sz_alloc, sz_drew] at q1 q2 q3 q4 q5 q6 q7 q8 q9 q10 q11 q12 q13 q14 q15 q16 ⊢; omega))
    have Box1 := hd (Box1.out.beside bs17 ILG.out (by have q1 := S1.out; have q2 := S2.out; have q3 := S3.out; have q4 := S4.out; have q5 := S5.out; have q6 := S6.out; have q7 := S7.out; have q8 := S8.out; have q9 := S9.out; have q10 := S10.out; have q11 := S11.out; have q12 := S12.out; have q13 := S13.out; have q14 := S14.out; have q15 := S15.out; have q16 := S16.out; have qf := Sf.out; have qg := Sg.out; try simp only [sz_alloc, sz_drew] at q1 q2 q3 q4 q5 q6 q7 q8 q9 q10 q11 q12 q13 q14 q15 q16 ⊢; omega))
    have W0 := hd (W0.out.beside bs17 ILG.out (by have q1 := S1.out; have q2 := S2.out; have q3 := S3.out; have q4 := S4.out; have q5 := S5.out; have q6 := S6.out; have q7 := S7.out; have q8 := S8.out; have q9 := S9.out; have q10 := S10.out; have q11 := S11.out; have q12 := S12.out; have q13 := S13.out; have q14 := S14.out; have q15 := S15.out; have q16 := S16.out; have qf := Sf.out; have qg := Sg.out; try simp only [sz_alloc, sz_drew] at q1 q2 q3 q4 q5 q6 q7 q8 q9 q10 q11 q12 q13 q14 q15 q16 ⊢; omega))
    have G0 := hd (G0.out.beside bs17 ILG.out (by have q1 := S1.out; have q2 := S2.out; have q3 := S3.out; have q4 := S4.out; have q5 := S5.out; have q6 := S6.out; have q7 := S7.out; have q8 := S8.out; have q9 := S9.out; have q10 := S10.out; have q11 := S11.out; have q12 := S12.out; have q13 := S13.out; have q14 := S14.out; have q15 := S15.out; have q16 := S16.out; have qf := Sf.out; have qg := Sg.out; try simp only [sz_alloc, sz_drew] at q1 q2 q3 q4 q5 q6 q7 q8 q9 q10 q11 q12 q13 q14 q15 q16 ⊢; omega))
    have LW := hd (LW.out.beside_hi bs17 ILG.out ILW.out (by have q1 := S1.out; have q2 := S2.out; have q3 := S3.out; have q4 := S4.out; have q5 := S5.out; have q6 := S6.out; have q7 := S7.out; have q8 := S8.out; have q9 := S9.out; have q10 := S10.out; have q11 := S11.out; have q12 := S12.out; have q13 := S13.out; have q14 := S14.out; have q15 := S15.out; have q16 := S16.out; have qf := Sf.out; have qg := Sg.out; try simp only [sz_alloc, sz_drew] at q1 q2 q3 q4 q5 q6 q7 q8 q9 q10 q11 q12 q13 q14 q15 q16 ⊢; omega))
    have S17 := hd b17.size
    have k17 := k16.trans (b17.mono (by have q1 := S1.out; have q2 := S2.out; have q3 := S3.out; have q4 := S4.out; have q5 := S5.out; have q6 := S6.out; have q7 := S7.out; have q8 := S8.out; have q9 := S9.out; have q10 := S10.out; have q11 := S11.out; have q12 := S12.out; have q13 := S13.out; have q14 := S14.out; have q15 := S15.out; have q16 := S16.out; have qf := Sf.out; have qg := Sg.out; try simp only [sz_alloc, sz_drew] at q1 q2 q3 q4 q5 q6 q7 q8 q9 q10 q11 q12 q13 q14 q15 q16 ⊢; omega))
    have LG := hd own17
    clear own17 b17 bs17
    obtain ⟨box01, box02, -⟩ := Box0.out
    obtain ⟨box11, box12, -⟩ := Box1.out
    obtain ⟨w01, w02, -⟩ := W0.out
    obtain ⟨g01, g02, -⟩ := G0.out
    go_wp2_with fail
    refine (held1 _ B8 d8 m _ LG.out.sg Hzl.out Hm_.out).mono ?_
    rintro e w18 ⟨rfl, b18⟩
    clear box01 box02 box11 box12 w01 w02 g01 g02
    have Box0 := hd (Box0.out.below b18)
    have Box1 := hd (Box1.out.below b18)
    have W0 := hd (W0.out.below b18)
    have G0 := hd (G0.out.below b18)
    have LW := hd (LW.out.below b18)
    have LG := hd (LG.out.below b18)
    have S18 := hd b18.size
    have k18 := k17.trans (b18.mono k17.size)
    clear b18
    obtain ⟨box01, box02, -⟩ := Box0.out
    obtain ⟨box11, box12, -⟩ := Box1.out
    obtain ⟨w01, w02, -⟩ := W0.out
    obtain ⟨g01, g02, -⟩ := G0.out
    have hz18 : w.heap.size + 1 < w18.heap.size := Box1.out.2.2
    have hcW018 := W0.out.2.2
    have hcG018 := G0.out.2.2
    have hlLW18 := fun g hg => (LW.out.lt (g := g) hg).2
    have hlLG18 := fun g hg => (LG.out.lt (g := g) hg).2
    go_wp2
    go_region_held3 (fun w' => w'.cell? ⟨w.heap.size, 0, none⟩ = some (.slice A0 cs0.length c0) ∧ w'.cell? ⟨w.heap.size + 1, 0, none⟩ = some (.slice A1 cs1.length c1)) (first | exact ⟨box01, box11⟩ | exact ⟨(Box0.out.alloc _).1, (Box1.out.alloc _).1⟩ | exact ⟨(Box0.out.drew.alloc _).1, (Box1.out.drew.alloc _).1⟩ | exact ⟨cell_far box01 (by omega), cell_far box11 (by omega)⟩ | go_keep) (first | (go_simp; go_at_call 26; (first | (show Calls Try.prog 26 _ (World.alloc _ _) _; have Box0 := hd (Box0.out.alloc (.cells #[.slice none 0 0] 31)); have Box1 := hd (Box1.out.alloc (.cells #[.slice none 0 0] 31)); have W0 := hd (W0.out.alloc (.cells #[.slice none 0 0] 31)); have G0 := hd (G0.out.alloc (.cells #[.slice none 0 0] 31)); have LW := hd (LW.out.alloc (.cells #[.slice none 0 0] 31)); have LG := hd (LG.out.alloc (.cells #[.slice none 0 0] 31)); have T0 := hd (T0.out.alloc (.cells #[.slice none 0 0] 31)); have Q0 := hd (Cl.new w19 (.slice none 0 0) 31); have k19 := k19.alloc k19.size (.cells #[.slice none 0 0] 31); refine (toEngine_any A1 c1 _ cs1 _ (H1.out.below k19) rfl hbig1).mono ?_) | refine (toEngine_any A1 c1 _ cs1 _ (H1.out.below k19) rfl hbig1).mono ?_); rintro e w20 ⟨B20, d20, rfl, own20, b20⟩; clear box01 box02 box11 box12 w01 w02 g01 g02; have Box0 := hd (Box0.out.below b20); have Box1 := hd (Box1.out.below b20); have W0 := hd (W0.out.below b20); have G0 := hd (G0.out.below b20); have LW := hd (LW.out.below b20); have LG := hd (LG.out.below b20); have T0 := hd (T0.out.below b20); (try (have Q0 := hd (Q0.out.below b20); obtain ⟨q0c, q0f, -⟩ := Q0.out)); have S20 := hd b20.size; have k20 := k19.trans (b20.mono k19.size); have IT1 := hd (In.of own20); have T1 := hd own20; clear own20; clear b20; have hz20 : w.heap.size + 1 < w20.heap.size := Box1.out.2.2; obtain ⟨box01, box02, -⟩ := Box0.out; obtain ⟨box11, box12, -⟩ := Box1.out; obtain ⟨w01, w02, -⟩ := W0.out; obtain ⟨g01, g02, -⟩ := G0.out) | (go_simp; go_at_call 26; (first | (show Calls Try.prog 26 _ (World.drew (World.alloc _ _)) _; have Box0 := hd (Box0.out.alloc (.cells #[.slice none 0 0] 31)); have Box1 := hd (Box1.out.alloc (.cells #[.slice none 0 0] 31)); have W0 := hd (W0.out.alloc (.cells #[.slice none 0 0] 31)); have G0 := hd (G0.out.alloc (.cells #[.slice none 0 0] 31)); have LW := hd (LW.out.alloc (.cells #[.slice none 0 0] 31)); have LG := hd (LG.out.alloc (.cells #[.slice none 0 0] 31)); have Q0 := hd (Cl.new w18 (.slice none 0 0) 31); have k18 := k18.alloc k18.size (.cells #[.slice none 0 0] 31); refine (toEngine_any A0 c0 _ cs0 _ (H0.out.below (k18.drew)) rfl hbig0).mono ?_) | refine (toEngine_any A0 c0 _ cs0 _ (H0.out.below (k18.drew)) rfl hbig0).mono ?_); rintro e w19 ⟨B19, d19, rfl, own19, b19⟩; clear box01 box02 box11 box12 w01 w02 g01 g02; have Box0 := hd (Box0.out.drew.below b19); have Box1 := hd (Box1.out.drew.below b19); have W0 := hd (W0.out.drew.below b19); have G0 := hd (G0.out.drew.below b19); have LW := hd (LW.out.drew.below b19); have LG := hd (LG.out.drew.below b19); (try (have Q0 := hd (Q0.out.drew.below b19); obtain ⟨q0c, q0f, -⟩ := Q0.out)); have S19 := hd b19.size; have k19 := k18.drew.trans (b19.mono k18.size); have IT0 := hd (In.of own19); have T0 := hd own19; clear own19; clear b19; have hz19 : w.heap.size + 1 < w19.heap.size := Box1.out.2.2; obtain ⟨box01, box02, -⟩ := Box0.out; obtain ⟨box11, box12, -⟩ := Box1.out; obtain ⟨w01, w02, -⟩ := W0.out; obtain ⟨g01, g02, -⟩ := G0.out) | (go_simp; go_at_call 27; (first | (show Calls Try.prog 27 _ (World.alloc _ _) _; have Box0 := hd (Box0.out.alloc (.cells #[.slice none 0 0] 31)); have Box1 := hd (Box1.out.alloc (.cells #[.slice none 0 0] 31)); have W0 := hd (W0.out.alloc (.cells #[.slice none 0 0] 31)); have G0 := hd (G0.out.alloc (.cells #[.slice none 0 0] 31)); have LW := hd (LW.out.alloc (.cells #[.slice none 0 0] 31)); have LG := hd (LG.out.alloc (.cells #[.slice none 0 0] 31)); have T0 := hd (T0.out.alloc (.cells #[.slice none 0 0] 31)); have T1 := hd (T1.out.alloc (.cells #[.slice none 0 0] 31)); have Q0 := hd (Cl.new w20 (.slice none 0 0) 31); have k20 := k20.alloc k20.size (.cells #[.slice none 0 0] 31); refine (AddEngines_z B19 d19 _ cs0 B20 d20 _ cs1 z ok _ rfl T0.out.sg Hsh0.out rfl T1.out.sg Hsh1.out Hz.out).mono ?_) | refine (AddEngines_z B19 d19 _ cs0 B20 d20 _ cs1 z ok _ rfl T0.out.sg Hsh0.out rfl T1.out.sg Hsh1.out Hz.out).mono ?_); rintro e w21 ⟨B21, d21, rfl, own21, b21⟩; clear box01 box02 box11 box12 w01 w02 g01 g02; have Box0 := hd (Box0.out.below b21); have Box1 := hd (Box1.out.below b21); have W0 := hd (W0.out.below b21); have G0 := hd (G0.out.below b21); have LW := hd (LW.out.below b21); have LG := hd (LG.out.below b21); have T0 := hd (T0.out.below b21); have T1 := hd (T1.out.below b21); (try (have Q0 := hd (Q0.out.below b21); obtain ⟨q0c, q0f, -⟩ := Q0.out)); have S21 := hd b21.size; have k21 := k20.trans (b21.mono k20.size); have ILH := hd (In.of own21); have LH := hd own21; clear own21; clear b21; have hz21 : w.heap.size + 1 < w21.heap.size := Box1.out.2.2; obtain ⟨box01, box02, -⟩ := Box0.out; obtain ⟨box11, box12, -⟩ := Box1.out; obtain ⟨w01, w02, -⟩ := W0.out; obtain ⟨g01, g02, -⟩ := G0.out))
    all_goals
      clear T0 T1
      clear box01 box02 box11 box12 w01 w02 g01 g02
      (first | (have Q0 := hd (Cl.new w21 (.slice B21 z.length d21) 31); have Box0 := hd (Box0.out.alloc (.cells #[.slice B21 z.length d21] 31)); have Box1 := hd (Box1.out.alloc (.cells #[.slice B21 z.length d21] 31)); have W0 := hd (W0.out.alloc (.cells #[.slice B21 z.length d21] 31)); have G0 := hd (G0.out.alloc (.cells #[.slice B21 z.length d21] 31)); have LW := hd (LW.out.alloc (.cells #[.slice B21 z.length d21] 31)); have LG := hd (LG.out.alloc (.cells #[.slice B21 z.length d21] 31)); have LH := hd (LH.out.alloc (.cells #[.slice B21 z.length d21] 31)); have kg := k21.alloc k21.size (.cells #[.slice B21 z.length d21] 31); have Sh : Hid (w21.heap.size ≤ (w21.alloc (.cells #[.slice B21 z.length d21] 31)).heap.size) := hd (by simp); have Si : Hid (w21.heap.size < (w21.alloc (.cells #[.slice B21 z.length d21] 31)).heap.size) := hd (by simp); obtain ⟨wg, hwg⟩ : ∃ wf, wf = (w21.alloc (.cells #[.slice B21 z.length d21] 31)) := ⟨_, rfl⟩; rw [← hwg] at Q0 kg Sh Si Box0 Box1 W0 G0 LW LG LH ⊢; obtain ⟨gQ, hgQ⟩ : ∃ gW, gW = w21.heap.size := ⟨_, rfl⟩; rw [← hgQ] at Q0 Si ⊢) | (have Q0 : Hid (Cl (w21.setCell ⟨w18.heap.size, 0, none⟩ (.slice B21 z.length d21)) w18.heap.size (.slice B21 z.length d21)) := hd (cl_put Q0.out (.slice B21 z.length d21)); have qa := S19.out; have qb := S20.out; have qc := S21.out; simp only [sz_alloc, sz_drew] at qa qb qc; have Box0 := hd (Box0.out.other (grown_set w21 ⟨w18.heap.size, 0, none⟩ (.slice B21 z.length d21)) (by simp <;> omega)); have Box1 := hd (Box1.out.other (grown_set w21 ⟨w18.heap.size, 0, none⟩ (.slice B21 z.length d21)) (by simp <;> omega)); have W0 := hd (W0.out.other (grown_set w21 ⟨w18.heap.size, 0, none⟩ (.slice B21 z.length d21)) (by simp <;> omega)); have G0 := hd (G0.out.other (grown_set w21 ⟨w18.heap.size, 0, none⟩ (.slice B21 z.length d21)) (by simp <;> omega)); have LW := hd (LW.out.keep_hi (U := w18.heap.size) hlLW18 (grown_set w21 ⟨w18.heap.size, 0, none⟩ (.slice B21 z.length d21)) (fun r hr => by simp at hr; omega)); have LG := hd (LG.out.keep_hi (U := w18.heap.size) hlLG18 (grown_set w21 ⟨w18.heap.size, 0, none⟩ (.slice B21 z.length d21)) (fun r hr => by simp at hr; omega)); have LH := hd (LH.out.keep_lo (grown_set w21 ⟨w18.heap.size, 0, none⟩ (.slice B21 z.length d21)) (fun r hr => by simp at hr; (try simp only [sz_alloc]); omega)); have kg := k21.setCell (p := ⟨w18.heap.size, 0, none⟩) (show w.heap.size ≤ w18.heap.size by omega) (.slice B21 z.length d21); have Sh : Hid (w21.heap.size ≤ (w21.setCell ⟨w18.heap.size, 0, none⟩ (.slice B21 z.length d21)).heap.size) := hd (by simp); have Si : Hid (w18.heap.size < (w21.setCell ⟨w18.heap.size, 0, none⟩ (.slice B21 z.length d21)).heap.size) := hd (by simp; omega); obtain ⟨wg, hwg⟩ : ∃ wf, wf = (w21.setCell ⟨w18.heap.size, 0, none⟩ (.slice B21 z.length d21)) := ⟨_, rfl⟩; rw [← hwg] at Q0 kg Sh Si Box0 Box1 W0 G0 LW LG LH ⊢; obtain ⟨gQ, hgQ⟩ : ∃ gW, gW = w18.heap.size := ⟨_, rfl⟩; rw [← hgQ] at Q0 Si ⊢) | (have Q0 : Hid (Cl (w21.setCell ⟨w19.heap.size, 0, none⟩ (.slice B21 z.length d21)) w19.heap.size (.slice B21 z.length d21)) := hd (cl_put Q0.out (.slice B21 z.length d21)); have qa := S19.out; have qb := S20.out; have qc := S21.out; simp only [sz_alloc, sz_drew] at qa qb qc; have Box0 := hd (Box0.out.other (grown_set w21 ⟨w19.heap.size, 0, none⟩ (.slice B21 z.length d21)) (by simp <;> omega)); have Box1 := hd (Box1.out.other (grown_set w21 ⟨w19.heap.size, 0, none⟩ (.slice B21 z.length d21)) (by simp <;> omega)); have W0 := hd (W0.out.other (grown_set w21 ⟨w19.heap.size, 0, none⟩ (.slice B21 z.length d21)) (by simp <;> omega)); have G0 := hd (G0.out.other (grown_set w21 ⟨w19.heap.size, 0, none⟩ (.slice B21 z.length d21)) (by simp <;> omega)); have LW := hd (LW.out.keep_hi (U := w18.heap.size) hlLW18 (grown_set w21 ⟨w19.heap.size, 0, none⟩ (.slice B21 z.length d21)) (fun r hr => by simp at hr; omega)); have LG := hd (LG.out.keep_hi (U := w18.heap.size) hlLG18 (grown_set w21 ⟨w19.heap.size, 0, none⟩ (.slice B21 z.length d21)) (fun r hr => by simp at hr; omega)); have LH := hd (LH.out.keep_lo (grown_set w21 ⟨w19.heap.size, 0, none⟩ (.slice B21 z.length d21)) (fun r hr => by simp at hr; (try simp only [sz_alloc]); omega)); have kg := k21.setCell (p := ⟨w19.heap.size, 0, none⟩) (show w.heap.size ≤ w19.heap.size by omega) (.slice B21 z.length d21); have Sh : Hid (w21.heap.size ≤ (w21.setCell ⟨w19.heap.size, 0, none⟩ (.slice B21 z.length d21)).heap.size) := hd (by simp); have Si : Hid (w19.heap.size < (w21.setCell ⟨w19.heap.size, 0, none⟩ (.slice B21 z.length d21)).heap.size) := hd (by simp; omega); obtain ⟨wg, hwg⟩ : ∃ wf, wf = (w21.setCell ⟨w19.heap.size, 0, none⟩ (.slice B21 z.length d21)) := ⟨_, rfl⟩; rw [← hwg] at Q0 kg Sh Si Box0 Box1 W0 G0 LW LG LH ⊢; obtain ⟨gQ, hgQ⟩ : ∃ gW, gW = w19.heap.size := ⟨_, rfl⟩; rw [← hgQ] at Q0 Si ⊢) | (have Q0 : Hid (Cl (w21.setCell ⟨w20.heap.size, 0, none⟩ (.slice B21 z.length d21)) w20.heap.size (.slice B21 z.length d21)) := hd (cl_put Q0.out (.slice B21 z.length d21)); have qa := S19.out; have qb := S20.out; have qc := S21.out; simp only [sz_alloc, sz_drew] at qa qb qc; have Box0 := hd (Box0.out.other (grown_set w21 ⟨w20.heap.size, 0, none⟩ (.slice B21 z.length d21)) (by simp <;> omega)); have Box1 := hd (Box1.out.other (grown_set w21 ⟨w20.heap.size, 0, none⟩ (.slice B21 z.length d21)) (by simp <;> omega)); have W0 := hd (W0.out.other (grown_set w21 ⟨w20.heap.size, 0, none⟩ (.slice B21 z.length d21)) (by simp <;> omega)); have G0 := hd (G0.out.other (grown_set w21 ⟨w20.heap.size, 0, none⟩ (.slice B21 z.length d21)) (by simp <;> omega)); have LW := hd (LW.out.keep_hi (U := w18.heap.size) hlLW18 (grown_set w21 ⟨w20.heap.size, 0, none⟩ (.slice B21 z.length d21)) (fun r hr => by simp at hr; omega)); have LG := hd (LG.out.keep_hi (U := w18.heap.size) hlLG18 (grown_set w21 ⟨w20.heap.size, 0, none⟩ (.slice B21 z.length d21)) (fun r hr => by simp at hr; omega)); have LH := hd (LH.out.keep_lo (grown_set w21 ⟨w20.heap.size, 0, none⟩ (.slice B21 z.length d21)) (fun r hr => by simp at hr; (try simp only [sz_alloc]); omega)); have kg := k21.setCell (p := ⟨w20.heap.size, 0, none⟩) (show w.heap.size ≤ w20.heap.size by omega) (.slice B21 z.length d21); have Sh : Hid (w21.heap.size ≤ (w21.setCell ⟨w20.heap.size, 0, none⟩ (.slice B21 z.length d21)).heap.size) := hd (by simp); have Si : Hid (w20.heap.size < (w21.setCell ⟨w20.heap.size, 0, none⟩ (.slice B21 z.length d21)).heap.size) := hd (by simp; omega); obtain ⟨wg, hwg⟩ : ∃ wf, wf = (w21.setCell ⟨w20.heap.size, 0, none⟩ (.slice B21 z.length d21)) := ⟨_, rfl⟩; rw [← hwg] at Q0 kg Sh Si Box0 Box1 W0 G0 LW LG LH ⊢; obtain ⟨gQ, hgQ⟩ : ∃ gW, gW = w20.heap.size := ⟨_, rfl⟩; rw [← hgQ] at Q0 Si ⊢))
      clear hgQ hwg
      obtain ⟨box01, box02, -⟩ := Box0.out
      obtain ⟨box11, box12, -⟩ := Box1.out
      obtain ⟨w01, w02, -⟩ := W0.out
      obtain ⟨g01, g02, -⟩ := G0.out
      obtain ⟨q01, q02, -⟩ := Q0.out
      go_wp2_with fail
      refine (eqEngine_same _ B21 B5 d21 d5 z _ rfl LH.out.sg LW.out.sg).mono ?_
      rintro e w22 ⟨rfl, b22⟩
      clear box01 box02 box11 box12 w01 w02 g01 g02 q01 q02
      have Box0 := hd (Box0.out.below b22)
      have Box1 := hd (Box1.out.below b22)
      have W0 := hd (W0.out.below b22)
      have G0 := hd (G0.out.below b22)
      have Q0 := hd (Q0.out.below b22)
      have LW := hd (LW.out.below b22)
      have LG := hd (LG.out.below b22)
      have LH := hd (LH.out.below b22)
      have S22 := hd b22.size
      have k22 := kg.trans (b22.mono kg.size)
      clear b22
      obtain ⟨box01, box02, -⟩ := Box0.out
      obtain ⟨box11, box12, -⟩ := Box1.out
      obtain ⟨w01, w02, -⟩ := W0.out
      obtain ⟨g01, g02, -⟩ := G0.out
      obtain ⟨q01, q02, -⟩ := Q0.out
      go_wp2_with fail
      refine (held1 _ B8 d8 m _ LG.out.sg Hzl.out Hm_.out).mono ?_
      rintro e w23 ⟨rfl, b23⟩
      clear box01 box02 box11 box12 w01 w02 g01 g02 q01 q02
      have Box0 := hd (Box0.out.below b23)
      have Box1 := hd (Box1.out.below b23)
      have W0 := hd (W0.out.below b23)
      have G0 := hd (G0.out.below b23)
      have Q0 := hd (Q0.out.below b23)
      have LW := hd (LW.out.below b23)
      have LG := hd (LG.out.below b23)
      have LH := hd (LH.out.below b23)
      have S23 := hd b23.size
      have k23 := k22.trans (b23.mono k22.size)
      clear b23
      obtain ⟨box01, box02, -⟩ := Box0.out
      obtain ⟨box11, box12, -⟩ := Box1.out
      obtain ⟨w01, w02, -⟩ := W0.out
      obtain ⟨g01, g02, -⟩ := G0.out
      obtain ⟨q01, q02, -⟩ := Q0.out
      go_wp2
      go_ret
      exact ⟨rfl, k23⟩

end Go.Proofs.Ytcalheieakppmaa
