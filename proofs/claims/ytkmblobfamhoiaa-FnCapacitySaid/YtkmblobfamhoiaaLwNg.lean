/- The walk of the law Capacity: the law returns true, whatever the input. -/
import Derived.Test.YtkmblobfamhoiaaLwR
import Derived.Test.YtkmblobfamhoiaaDrawP
import Derived.Deep.RegionHeld3
namespace Go.Proofs.Ytkmblobfamhoiaa
open Go.RowKit
set_option maxRecDepth 4000

theorem walk_width {x : Int} {W u : Nat} (h1 : 1 ≤ W) (h12 : W ≤ 12) (hf : fitsB x W = true) (hu : wfor x = u) : ((u : Int) == 0) = false ∧ ¬ (W : Int) < u := by
  have h3 := (wfor_iff h1 h12).2 hf
  rw [hu] at h3
  exact ⟨by simp; omega, by omega⟩

theorem Capacity_big (A : Option Addr) (c n : Nat) (w : World) (h1 : 1048576 < n) (h2 : n ≤ 9223372036854775807) :
    Calls Try.prog 11 #[.slice A n c] w fun e w' => e = .returned (.bool true) ∧ Below w.heap.size w w' := by
  have hbig' : (1048576 : Int) < n := by omega
  go_enter Try.func11, Try.ntmps11
  go_wp2
  go_ret
  exact ⟨rfl, Below.refl _ _⟩

set_option maxHeartbeats 8000000 in
theorem Capacity_walk (A : Option Addr) (c : Nat) (zs : List Int) (w : World) (h : SR w A (zs.map (Value.int .u8))) (hbig : zs.length ≤ 1048576) (hcap : zs.length ≤ c) (hx : ∀ x ∈ zs, 0 ≤ x ∧ x ≤ 255) :
    Calls Try.prog 11 #[.slice A zs.length c] w fun e w' => e = .returned (.bool true) ∧ Below w.heap.size w w' := by
  have H := hd h
  have Hx := hd hx
  have hbig' : ¬ (1048576 : Int) < zs.length := by omega
  clear h hx
  go_enter Try.func11, Try.ntmps11
  go_wp2_with fail
  refine (DrawCapacityOf_any A c zs _ H.out hbig hcap Hx.out).mono ?_
  rintro e w1 ⟨Ap, cp, p, n, N, M, rfl, hp8, own1, hcp, k1, hn64, hN64, hM64⟩
  have LP : Hid (OwnG (Value.int .i64) 3 w.heap.size w1 Ap cp p) := hd own1
  clear own1
  obtain ⟨K, Hc⟩ : ∃ K, Hid (capF p n N M = K) := ⟨_, hd rfl⟩
  by_cases hK : K < 0
  · have hKb := hK
    go_wp2_with fail
    refine (CapacityOf_z n N M Ap cp _ p K _ rfl LP.out.sg Hc.out).mono ?_
    rintro e w2 ⟨rfl, b2⟩
    have LP := hd (LP.out.below b2)
    have k2 := k1.trans (b2.mono k1.size)
    clear b2
    go_wp2_with fail
    refine (sCapacityOf_z n N M Ap cp _ p K _ rfl LP.out.sg Hc.out).mono ?_
    rintro e w3 ⟨rfl, b3⟩
    have LP := hd (LP.out.below b3)
    have k3 := k2.trans (b3.mono k2.size)
    clear b3
    go_wp2_with fail
    refine (sCapacityOf_z n N M Ap cp _ p K _ rfl LP.out.sg Hc.out).mono ?_
    rintro e w4 ⟨rfl, b4⟩
    have LP := hd (LP.out.below b4)
    have k4 := k3.trans (b4.mono k3.size)
    clear b4
    go_wp2
    go_ret
    exact ⟨rfl, k4⟩
  · obtain ⟨vs, W, hvs, hNW, hW1, hW12, hKe⟩ := capF_is Hc.out (by omega)
    subst hNW
    obtain ⟨-, -, ⟨hM0, hM60⟩, -, -, hvl⟩ := valsP_some hvs
    have hle := capN_le vs W
    obtain ⟨k0, hk0⟩ : ∃ k0, k0 = capN vs W := ⟨_, rfl⟩
    have Hfit : Hid (∀ i x, i < k0 → vs[i]? = some x → fitsB x W = true) := hd (fun i x h h2 => capN_fits vs W i x (by omega) h2)
    have Hstop : Hid (∀ x, vs[k0]? = some x → fitsB x W = false) := hd (fun x h2 => capN_stop vs W x (by rw [← hk0]; exact h2))
    have Hrun : Hid (∀ z, setF p n W = some z → runF (manyV · 1) (k0 : Int) z = some (vs.take k0) ∧ engV z = true) := hd (fun z h2 => by rw [hk0]; exact run_cap hvs h2)
    have Hv : Hid ((valsP p n M).getD [] = vs ∧ (valsP p n M).isSome = true) := hd (by rw [hvs]; exact ⟨rfl, rfl⟩)
    rw [← hk0] at hKe hle
    subst hKe
    have Hvl := hd hvl
    have hkM : ¬ M < (k0 : Int) := by omega
    have hk00 : ¬ (k0 : Int) < 0 := by omega
    have hk60 : k0 ≤ 60 := by omega
    clear hk0 hvs hvl hK
    obtain ⟨z, Hz⟩ : ∃ z, Hid ((setF p n W).getD [] = z) := ⟨_, hd rfl⟩
    obtain ⟨ok, Hok⟩ : ∃ ok, Hid ((setF p n W).isSome = ok) := ⟨_, hd rfl⟩
    go_wp2_with fail
    refine (CapacityOf_z n W M Ap cp _ p k0 _ rfl LP.out.sg Hc.out).mono ?_
    rintro e w2 ⟨rfl, b2⟩
    have LP := hd (LP.out.below b2)
    have k2 := k1.trans (b2.mono k1.size)
    clear b2
    go_wp2_with fail
    refine (sCapacityOf_z n W M Ap cp _ p k0 _ rfl LP.out.sg Hc.out).mono ?_
    rintro e w3 ⟨rfl, b3⟩
    have LP := hd (LP.out.below b3)
    have k3 := k2.trans (b3.mono k2.size)
    clear b3
    go_wp2_with fail
    refine (ValuesOf_z n M Ap cp _ p vs true _ rfl LP.out.sg Hv.out).mono ?_
    rintro e w4 ⟨B4, d4, rfl, own4, b4⟩
    have LP := hd (LP.out.below b4)
    have k4 := k3.trans (b4.mono k3.size)
    have LV := hd own4
    clear own4
    clear b4
    go_wp2_with fail
    refine (SetUp_z n W Ap cp _ p z ok _ rfl LP.out.sg hcp ⟨Hz.out, Hok.out⟩).mono ?_
    rintro e w5 ⟨B5, d5, rfl, own5, b5⟩
    have LP := hd (LP.out.below b5)
    have LV := hd (LV.out.below b5)
    have k5 := k4.trans (b5.mono k4.size)
    have LX := hd own5
    clear own5
    clear b5
    have X0 := hd (Cl.new w5 (.slice B5 z.length d5) 36)
    have LP := hd (LP.out.alloc (.cells #[.slice B5 z.length d5] 36))
    have LV := hd (LV.out.alloc (.cells #[.slice B5 z.length d5] 36))
    have LX := hd (LX.out.alloc (.cells #[.slice B5 z.length d5] 36))
    have k5 := k5.alloc k5.size (.cells #[.slice B5 z.length d5] 36)
    obtain ⟨x01, x02, -⟩ := X0.out
    have Hor := hd LV.out.addr_or
    have Bk := hd k5
    obtain ⟨wk, hwk⟩ : ∃ x, x = (w5.alloc (.cells #[.slice B5 z.length d5] 36)) := ⟨_, rfl⟩
    have X0v := hd X0.out
    rw [← hwk] at X0v
    have LVv := hd LV.out
    rw [← hwk] at LVv
    have LXv := hd LX.out
    rw [← hwk] at LXv
    have Bkv := hd Bk.out
    rw [← hwk] at Bkv
    go_wp2
    go_loopw [12] (fun i wr => ∃ k : Nat, k ≤ k0 ∧ i = .int .i64 k ∧ Below wk.heap.size wk wr) (fun i _ => k0 - (intOf i).toNat)
    case atStart => exact ⟨0, by omega, rfl, by rw [hwk]; exact Below.refl _ _⟩
    case round =>
      obtain ⟨k, hk, rfl, bw⟩ := hrel
      clear x01 x02
      clear hwk LX LV X0 Bk
      have X0 := hd (X0v.out.below bw)
      have LV := hd (LVv.out.below bw)
      have LX := hd (LXv.out.below bw)
      have Bk := hd (Bkv.out.trans (bw.mono Bkv.out.size))
      have Bw := hd bw
      clear bw
      clear X0v LVv LXv Bkv
      obtain ⟨x01, x02, -⟩ := X0.out
      by_cases hlt : k < k0
      · have e1 : (k : Int) < k0 := by omega
        have e2 : (0 : Int) ≤ k := by omega
        have e3 : k < vs.length := by omega
        have e4 : (k : Int) < vs.length := by omega
        obtain ⟨x, hx⟩ : ∃ x, vs[k]? = some x := ⟨vs[k], List.getElem?_eq_getElem e3⟩
        have Hx := hd hx
        obtain ⟨u, Hu⟩ : ∃ u, Hid (wfor x = u) := ⟨_, hd rfl⟩
        obtain ⟨hu1, hu2⟩ := walk_width hW1 hW12 (Hfit.out k x hlt hx) Hu.out
        clear hx
        obtain ⟨bA, oA, hbA, -⟩ := LV.out.sg.nonempty (by omega)
        have LVu := hd LV.out
        clear LV Hor
        subst hbA
        have LV := hd LVu.out
        clear LVu
        have hcx := (LV.out.sg.cellK Hx.out).1
        go_wp2_with fail
        refine (WidthFor_r x u _ Hu.out).mono ?_
        rintro e w40 ⟨rfl, b40⟩
        clear x01 x02
        have X0 := hd (X0.out.below b40)
        have LV := hd (LV.out.below b40)
        have LX := hd (LX.out.below b40)
        have Bk := hd (Bk.out.trans (b40.mono Bk.out.size))
        have Bw := hd (Bw.out.trans (b40.mono Bw.out.size))
        clear b40
        obtain ⟨x01, x02, -⟩ := X0.out
        clear hcx
        have hcx := (LV.out.sg.cellK Hx.out).1
        go_wp2_with fail
        refine (WidthFor_r x u _ Hu.out).mono ?_
        rintro e w41 ⟨rfl, b41⟩
        clear x01 x02
        have X0 := hd (X0.out.below b41)
        have LV := hd (LV.out.below b41)
        have LX := hd (LX.out.below b41)
        have Bk := hd (Bk.out.trans (b41.mono Bk.out.size))
        have Bw := hd (Bw.out.trans (b41.mono Bw.out.size))
        clear b41
        obtain ⟨x01, x02, -⟩ := X0.out
        go_wp2
        go_roundw
        case rel => exact ⟨k + 1, by omega, by go_num, Bw.out⟩
        case measure => simp [intOf] <;> omega
      · obtain rfl : k0 = k := by omega
        have e9 : (0 : Int) ≤ k0 := by omega
        have hcap9 := LV.out.cap
        have e8 : (k0 : Int) ≤ d4 := by have := Hvl.out; omega
        have e7 : k0 ≤ d4 := by omega
        clear hcap9
        by_cases hKM : (k0 : Int) < M
        · have e3 : k0 < vs.length := by have := Hvl.out; omega
          have e4 : (k0 : Int) < vs.length := by omega
          obtain ⟨x, hx⟩ : ∃ x, vs[k0]? = some x := ⟨vs[k0], List.getElem?_eq_getElem e3⟩
          have Hx := hd hx
          obtain ⟨u, Hu⟩ : ∃ u, Hid (wfor x = u) := ⟨_, hd rfl⟩
          have Hno : Hid (¬ (u ≠ 0 ∧ u ≤ W)) := hd (by rw [← Hu.out]; exact mt (wfor_iff hW1 hW12).1 (by rw [Hstop.out x hx]; simp))
          clear hx
          obtain ⟨bA, oA, hbA, -⟩ := LV.out.sg.nonempty (by omega)
          have LVu := hd LV.out
          clear LV Hor
          subst hbA
          have LV := hd LVu.out
          clear LVu
          have hcx := (LV.out.sg.cellK Hx.out).1
          by_cases hu0 : (0 : Int) < u
          · have hu1 : ¬ (u : Int) ≤ W := by have := Hno.out; omega
            go_wp2_with fail
            refine (WidthFor_r x u _ Hu.out).mono ?_
            rintro e w42 ⟨rfl, b42⟩
            clear x01 x02
            have X0 := hd (X0.out.below b42)
            have LV := hd (LV.out.below b42)
            have LX := hd (LX.out.below b42)
            have Bk := hd (Bk.out.trans (b42.mono Bk.out.size))
            have Bw := hd (Bw.out.trans (b42.mono Bw.out.size))
            clear b42
            obtain ⟨x01, x02, -⟩ := X0.out
            clear hcx
            have hcx := (LV.out.sg.cellK Hx.out).1
            go_wp2_with fail
            refine (WidthFor_r x u _ Hu.out).mono ?_
            rintro e w43 ⟨rfl, b43⟩
            clear x01 x02
            have X0 := hd (X0.out.below b43)
            have LV := hd (LV.out.below b43)
            have LX := hd (LX.out.below b43)
            have Bk := hd (Bk.out.trans (b43.mono Bk.out.size))
            have Bw := hd (Bw.out.trans (b43.mono Bw.out.size))
            clear b43
            obtain ⟨x01, x02, -⟩ := X0.out
            cases hok : ok
            · subst hok
              go_wp2
              go_ret
              exact ⟨rfl, Bk.out⟩
            · subst hok
              have hsz : setF p n W = some z := by have h1 := Hok.out; have h2 := Hz.out; cases hs : setF p n W with | none => rw [hs] at h1; simp at h1 | some y => rw [hs] at h2; simp at h2; rw [h2]
              obtain ⟨hr9, hv9⟩ := Hrun.out z hsz
              have Hr9 : Hid ((runF (manyV · 1) (k0 : Int) z).getD [] = vs.take k0 ∧ (runF (manyV · 1) (k0 : Int) z).isSome = true) := hd (by rw [hr9]; exact ⟨rfl, rfl⟩)
              have Hsh9 := hd (eng_short' hv9)
              have Htl : Hid ((vs.take k0).length = k0) := hd (by have := Hvl.out; rw [List.length_take]; omega)
              clear hsz hr9 hv9
              go_wp2_with fail
              refine (RunEngine_z k0 B5 d5 _ z (vs.take k0) true _ rfl LX.out.sg Hsh9.out Hr9.out).mono ?_
              rintro e w50 ⟨A5, c5, rfl, own50, b50⟩
              clear x01 x02
              have X0 := hd (X0.out.below b50)
              have LV := hd (LV.out.below b50)
              have LX := hd (LX.out.below b50)
              have Bk := hd (Bk.out.trans (b50.mono Bk.out.size))
              have Bw := hd (Bw.out.trans (b50.mono Bw.out.size))
              have LR := hd own50
              clear own50
              clear b50
              obtain ⟨x01, x02, -⟩ := X0.out
              have SV := hd (LV.out.sg.take k0)
              go_wp2_with fail
              refine (deInts_v k0 k0 A5 _ c5 _ (vs.take k0) _ Htl.out Htl.out LR.out.sg SV.out).mono ?_
              rintro e w51 ⟨rfl, b51⟩
              have Bk := hd (Bk.out.trans (b51.mono Bk.out.size))
              clear b51
              go_wp2
              go_ret
              exact ⟨rfl, Bk.out⟩
          · have hu1 := hu0
            go_wp2_with fail
            refine (WidthFor_r x u _ Hu.out).mono ?_
            rintro e w42 ⟨rfl, b42⟩
            clear x01 x02
            have X0 := hd (X0.out.below b42)
            have LV := hd (LV.out.below b42)
            have LX := hd (LX.out.below b42)
            have Bk := hd (Bk.out.trans (b42.mono Bk.out.size))
            have Bw := hd (Bw.out.trans (b42.mono Bw.out.size))
            clear b42
            obtain ⟨x01, x02, -⟩ := X0.out
            cases hok : ok
            · subst hok
              go_wp2
              go_ret
              exact ⟨rfl, Bk.out⟩
            · subst hok
              have hsz : setF p n W = some z := by have h1 := Hok.out; have h2 := Hz.out; cases hs : setF p n W with | none => rw [hs] at h1; simp at h1 | some y => rw [hs] at h2; simp at h2; rw [h2]
              obtain ⟨hr9, hv9⟩ := Hrun.out z hsz
              have Hr9 : Hid ((runF (manyV · 1) (k0 : Int) z).getD [] = vs.take k0 ∧ (runF (manyV · 1) (k0 : Int) z).isSome = true) := hd (by rw [hr9]; exact ⟨rfl, rfl⟩)
              have Hsh9 := hd (eng_short' hv9)
              have Htl : Hid ((vs.take k0).length = k0) := hd (by have := Hvl.out; rw [List.length_take]; omega)
              clear hsz hr9 hv9
              go_wp2_with fail
              refine (RunEngine_z k0 B5 d5 _ z (vs.take k0) true _ rfl LX.out.sg Hsh9.out Hr9.out).mono ?_
              rintro e w50 ⟨A5, c5, rfl, own50, b50⟩
              clear x01 x02
              have X0 := hd (X0.out.below b50)
              have LV := hd (LV.out.below b50)
              have LX := hd (LX.out.below b50)
              have Bk := hd (Bk.out.trans (b50.mono Bk.out.size))
              have Bw := hd (Bw.out.trans (b50.mono Bw.out.size))
              have LR := hd own50
              clear own50
              clear b50
              obtain ⟨x01, x02, -⟩ := X0.out
              have SV := hd (LV.out.sg.take k0)
              go_wp2_with fail
              refine (deInts_v k0 k0 A5 _ c5 _ (vs.take k0) _ Htl.out Htl.out LR.out.sg SV.out).mono ?_
              rintro e w51 ⟨rfl, b51⟩
              have Bk := hd (Bk.out.trans (b51.mono Bk.out.size))
              clear b51
              go_wp2
              go_ret
              exact ⟨rfl, Bk.out⟩
        · have hKM2 := hKM
          have LVu := hd LV.out
          clear LV
          rcases Hor.out with ⟨hA, hc0, hv0⟩ | ⟨gA, hA⟩
          · subst hA
            have LV := hd LVu.out
            clear LVu Hor hc0 hv0
            cases hok : ok
            · subst hok
              go_wp2
              go_ret
              exact ⟨rfl, Bk.out⟩
            · subst hok
              have hsz : setF p n W = some z := by have h1 := Hok.out; have h2 := Hz.out; cases hs : setF p n W with | none => rw [hs] at h1; simp at h1 | some y => rw [hs] at h2; simp at h2; rw [h2]
              obtain ⟨hr9, hv9⟩ := Hrun.out z hsz
              have Hr9 : Hid ((runF (manyV · 1) (k0 : Int) z).getD [] = vs.take k0 ∧ (runF (manyV · 1) (k0 : Int) z).isSome = true) := hd (by rw [hr9]; exact ⟨rfl, rfl⟩)
              have Hsh9 := hd (eng_short' hv9)
              have Htl : Hid ((vs.take k0).length = k0) := hd (by have := Hvl.out; rw [List.length_take]; omega)
              clear hsz hr9 hv9
              go_wp2_with fail
              refine (RunEngine_z k0 B5 d5 _ z (vs.take k0) true _ rfl LX.out.sg Hsh9.out Hr9.out).mono ?_
              rintro e w50 ⟨A5, c5, rfl, own50, b50⟩
              clear x01 x02
              have X0 := hd (X0.out.below b50)
              have LV := hd (LV.out.below b50)
              have LX := hd (LX.out.below b50)
              have Bk := hd (Bk.out.trans (b50.mono Bk.out.size))
              have Bw := hd (Bw.out.trans (b50.mono Bw.out.size))
              have LR := hd own50
              clear own50
              clear b50
              obtain ⟨x01, x02, -⟩ := X0.out
              have SV := hd (LV.out.sg.take k0)
              go_wp2_with fail
              refine (deInts_v k0 k0 A5 _ c5 _ (vs.take k0) _ Htl.out Htl.out LR.out.sg SV.out).mono ?_
              rintro e w51 ⟨rfl, b51⟩
              have Bk := hd (Bk.out.trans (b51.mono Bk.out.size))
              clear b51
              go_wp2
              go_ret
              exact ⟨rfl, Bk.out⟩
          · subst hA
            have LV := hd LVu.out
            clear LVu Hor
            cases hok : ok
            · subst hok
              go_wp2
              go_ret
              exact ⟨rfl, Bk.out⟩
            · subst hok
              have hsz : setF p n W = some z := by have h1 := Hok.out; have h2 := Hz.out; cases hs : setF p n W with | none => rw [hs] at h1; simp at h1 | some y => rw [hs] at h2; simp at h2; rw [h2]
              obtain ⟨hr9, hv9⟩ := Hrun.out z hsz
              have Hr9 : Hid ((runF (manyV · 1) (k0 : Int) z).getD [] = vs.take k0 ∧ (runF (manyV · 1) (k0 : Int) z).isSome = true) := hd (by rw [hr9]; exact ⟨rfl, rfl⟩)
              have Hsh9 := hd (eng_short' hv9)
              have Htl : Hid ((vs.take k0).length = k0) := hd (by have := Hvl.out; rw [List.length_take]; omega)
              clear hsz hr9 hv9
              go_wp2_with fail
              refine (RunEngine_z k0 B5 d5 _ z (vs.take k0) true _ rfl LX.out.sg Hsh9.out Hr9.out).mono ?_
              rintro e w50 ⟨A5, c5, rfl, own50, b50⟩
              clear x01 x02
              have X0 := hd (X0.out.below b50)
              have LV := hd (LV.out.below b50)
              have LX := hd (LX.out.below b50)
              have Bk := hd (Bk.out.trans (b50.mono Bk.out.size))
              have Bw := hd (Bw.out.trans (b50.mono Bw.out.size))
              have LR := hd own50
              clear own50
              clear b50
              obtain ⟨x01, x02, -⟩ := X0.out
              have SV := hd (LV.out.sg.take k0)
              go_wp2_with fail
              refine (deInts_v k0 k0 A5 _ c5 _ (vs.take k0) _ Htl.out Htl.out LR.out.sg SV.out).mono ?_
              rintro e w51 ⟨rfl, b51⟩
              have Bk := hd (Bk.out.trans (b51.mono Bk.out.size))
              clear b51
              go_wp2
              go_ret
              exact ⟨rfl, Bk.out⟩

end Go.Proofs.Ytkmblobfamhoiaa
