/- The walk of the law SkewBack: the law returns true, whatever the input. -/
import Derived.Test.YtcalheieakppmaaLwJ
import Derived.Test.YtcalheieakppmaaSpeY
import Derived.Test.YtcalheieakppmaaSpf
import Derived.Test.YtcalheieakppmaaLwM
import Derived.Deep.RegionHeld3
namespace Go.Proofs.Ytcalheieakppmaa
open Go.RowKit
set_option maxRecDepth 4000

theorem skewBack_sSkewEngine_r (A : Option Addr) (c n : Nat) (cs z : List ByteArray) (ok : Bool) (w : World) (hn : cs.length = n) (h : SS w A cs) (hs : Short cs) (hz : (turnF skewV cs).getD [] = z ∧ (turnF skewV cs).isSome = ok) :
    Calls Try.prog 76 #[.agg #[.slice A n c]] w fun e w' => RetEB 9 w.heap.size w z ok e w' := by
  obtain ⟨rfl, rfl⟩ := hz
  subst hn
  exact sSkewEngine_any A c cs w h hs

theorem skewBack_SkewEngine_r (A : Option Addr) (c n : Nat) (cs z : List ByteArray) (ok : Bool) (w : World) (hn : cs.length = n) (h : SS w A cs) (hs : Short cs) (hz : (turnF skewV cs).getD [] = z ∧ (turnF skewV cs).isSome = ok) :
    Calls Try.prog 71 #[.agg #[.slice A n c]] w fun e w' => RetEB 9 w.heap.size w z ok e w' := by
  obtain ⟨rfl, rfl⟩ := hz
  subst hn
  exact SkewEngine_any A c cs w h hs

theorem skewBack_UnskewEngine_r (A : Option Addr) (c n : Nat) (cs z : List ByteArray) (ok : Bool) (w : World) (hn : cs.length = n) (h : SS w A cs) (hs : Short cs) (hz : (turnF unskV cs).getD [] = z ∧ (turnF unskV cs).isSome = ok) :
    Calls Try.prog 42 #[.agg #[.slice A n c]] w fun e w' => RetEB 9 w.heap.size w z ok e w' := by
  obtain ⟨rfl, rfl⟩ := hz
  subst hn
  exact UnskewEngine_any A c cs w h hs

theorem SkewBack_big (A : Option Addr) (c n : Nat) (w : World) (h1 : 1048576 < n) (h2 : n ≤ 9223372036854775807) :
    Calls Try.prog 19 #[.slice A n c] w fun e w' => e = .returned (.bool true) ∧ Below w.heap.size w w' := by
  have hbig' : (1048576 : Int) < n := by omega
  go_enter Try.func19, Try.ntmps19
  go_wp2
  go_ret
  exact ⟨rfl, Below.refl _ _⟩

set_option maxHeartbeats 16000000 in
theorem SkewBack_walk (A : Option Addr) (c : Nat) (zs : List Int) (w : World) (h : SR w A (zs.map (Value.int .u8))) (hbig : zs.length ≤ 1048576) (hcap : zs.length ≤ c) (hx : ∀ x ∈ zs, 0 ≤ x ∧ x ≤ 255) :
    Calls Try.prog 19 #[.slice A zs.length c] w fun e w' => e = .returned (.bool true) ∧ Below w.heap.size w w' := by
  have H := hd h
  have Hx := hd hx
  have hbig' : ¬ (1048576 : Int) < zs.length := by omega
  clear h hx
  go_enter Try.func19, Try.ntmps19
  go_wp2_with fail
  refine (DrawSkewEngine_any A c zs _ H.out hcap Hx.out).mono ?_
  rintro e w1 ⟨Ae, ce, cs, rfl, ⟨hl8, hsz⟩, own1, k1⟩
  have Hsh := hd (hsz.short (by decide))
  have LE := hd own1
  clear hsz own1
  have E0 := hd (Cl.new w1 (.slice Ae cs.length ce) 31)
  have LE := hd (LE.out.alloc (.cells #[.slice Ae cs.length ce] 31))
  have k1 := k1.alloc k1.size (.cells #[.slice Ae cs.length ce] 31)
  obtain ⟨e01, e02, -⟩ := E0.out
  cases hv : engV cs
  · obtain ⟨z, hz0⟩ : ∃ z : List ByteArray, z = [] := ⟨_, rfl⟩
    have Hz : Hid ((turnF skewV cs).getD [] = z ∧ (turnF skewV cs).isSome = false) := hd (by rw [turnF_none hv, hz0]; exact ⟨rfl, rfl⟩)
    clear hz0 hv
    go_wp2_with fail
    refine (skewBack_SkewEngine_r Ae ce _ cs z false _ rfl LE.out.sg Hsh.out Hz.out).mono ?_
    rintro e w2 ⟨B2, d2, rfl, own2, b2⟩
    clear e01 e02
    have E0 := hd (E0.out.below b2)
    have LE := hd (LE.out.below b2)
    have k2 := k1.trans (b2.mono k1.size)
    have LX := hd own2
    clear own2
    clear b2
    obtain ⟨e01, e02, -⟩ := E0.out
    clear e01 e02
    have X0 := hd (Cl.new w2 (.slice B2 z.length d2) 31)
    have E0 := hd (E0.out.alloc (.cells #[.slice B2 z.length d2] 31))
    have LE := hd (LE.out.alloc (.cells #[.slice B2 z.length d2] 31))
    have LX := hd (LX.out.alloc (.cells #[.slice B2 z.length d2] 31))
    have k2 := k2.alloc k2.size (.cells #[.slice B2 z.length d2] 31)
    obtain ⟨e01, e02, -⟩ := E0.out
    obtain ⟨x01, x02, -⟩ := X0.out
    go_wp2_with fail
    refine (skewBack_sSkewEngine_r Ae ce _ cs z false _ rfl LE.out.sg Hsh.out Hz.out).mono ?_
    rintro e w3 ⟨B3, d3, rfl, own3, b3⟩
    clear e01 e02 x01 x02
    have E0 := hd (E0.out.below b3)
    have X0 := hd (X0.out.below b3)
    have LE := hd (LE.out.below b3)
    have LX := hd (LX.out.below b3)
    have k3 := k2.trans (b3.mono k2.size)
    have LW := hd own3
    clear own3
    clear b3
    obtain ⟨e01, e02, -⟩ := E0.out
    obtain ⟨x01, x02, -⟩ := X0.out
    clear e01 e02 x01 x02
    have W0 := hd (Cl.new w3 (.slice B3 z.length d3) 31)
    have E0 := hd (E0.out.alloc (.cells #[.slice B3 z.length d3] 31))
    have X0 := hd (X0.out.alloc (.cells #[.slice B3 z.length d3] 31))
    have LE := hd (LE.out.alloc (.cells #[.slice B3 z.length d3] 31))
    have LX := hd (LX.out.alloc (.cells #[.slice B3 z.length d3] 31))
    have LW := hd (LW.out.alloc (.cells #[.slice B3 z.length d3] 31))
    have k3 := k3.alloc k3.size (.cells #[.slice B3 z.length d3] 31)
    obtain ⟨e01, e02, -⟩ := E0.out
    obtain ⟨x01, x02, -⟩ := X0.out
    obtain ⟨w01, w02, -⟩ := W0.out
    go_wp2_with fail
    refine (deSame_same _ B2 B3 d2 d3 z _ rfl LX.out.sg LW.out.sg).mono ?_
    rintro e w4 ⟨rfl, b4⟩
    clear e01 e02 x01 x02 w01 w02
    have E0 := hd (E0.out.below b4)
    have X0 := hd (X0.out.below b4)
    have W0 := hd (W0.out.below b4)
    have LE := hd (LE.out.below b4)
    have LX := hd (LX.out.below b4)
    have LW := hd (LW.out.below b4)
    have k4 := k3.trans (b4.mono k3.size)
    clear b4
    obtain ⟨e01, e02, -⟩ := E0.out
    obtain ⟨x01, x02, -⟩ := X0.out
    obtain ⟨w01, w02, -⟩ := W0.out
    go_wp2_with fail
    refine (deSame_same _ B2 B3 d2 d3 z _ rfl LX.out.sg LW.out.sg).mono ?_
    rintro e w5 ⟨rfl, b5⟩
    clear e01 e02 x01 x02 w01 w02
    have E0 := hd (E0.out.below b5)
    have X0 := hd (X0.out.below b5)
    have W0 := hd (W0.out.below b5)
    have LE := hd (LE.out.below b5)
    have LX := hd (LX.out.below b5)
    have LW := hd (LW.out.below b5)
    have k5 := k4.trans (b5.mono k4.size)
    clear b5
    obtain ⟨e01, e02, -⟩ := E0.out
    obtain ⟨x01, x02, -⟩ := X0.out
    obtain ⟨w01, w02, -⟩ := W0.out
    go_wp2
    go_ret
    exact ⟨rfl, k5⟩
  · obtain ⟨z, hz0⟩ : ∃ z : List ByteArray, z = eng (hsz cs) (skewV (cvs cs)) := ⟨_, rfl⟩
    have Hz : Hid ((turnF skewV cs).getD [] = z ∧ (turnF skewV cs).isSome = true) := hd (by rw [turnF_some hv, hz0]; exact ⟨rfl, rfl⟩)
    have hb := turnF_turnF (f := skewV) (g := unskV) hv skewV_length hz0 (fun _ _ _ h => h.unsk)
    have Hb : Hid ((turnF unskV z).getD [] = cs ∧ (turnF unskV z).isSome = true) := hd (by rw [hb.2]; refine ⟨?_, rfl⟩; rw [Option.getD_some]; rw [unsk_skew]; exact (engV_vals hv).1.symm)
    have Hshz := hd (eng_short' hb.1)
    have Hmf : Hid (∀ N : Int, inB N 300 = true → (manyF N cs).getD [] = eng (hsz cs) (manyV (cvs cs) N)) := hd (fun N hN => by rw [manyF_some hv hN]; rfl)
    obtain ⟨hee, hW1, hW12, hn1, hn7⟩ := engV_vals hv
    obtain ⟨W, hW⟩ : ∃ W, W = hsz cs := ⟨_, rfl⟩
    obtain ⟨vs, hvs⟩ : ∃ vs, vs = cvs cs := ⟨_, rfl⟩
    have Hl : Hid (vs.length = cs.length) := hd (by rw [hvs]; simp [cvs])
    rw [← hW, ← hvs] at hee hz0 Hmf
    rw [← hvs] at hn1 hn7
    rw [Hl.out] at hn1 hn7
    have Hzl : Hid (z.length = cs.length) := hd (by rw [hz0, eng_length, skewV_length, Hl.out])
    have He := hd hee
    have Hz0 := hd hz0
    clear hz0 hv hb hee hW hvs hW1 hW12
    go_wp2_with fail
    refine (skewBack_SkewEngine_r Ae ce _ cs z true _ rfl LE.out.sg Hsh.out Hz.out).mono ?_
    rintro e w2 ⟨B2, d2, rfl, own2, b2⟩
    clear e01 e02
    have E0 := hd (E0.out.below b2)
    have LE := hd (LE.out.below b2)
    have k2 := k1.trans (b2.mono k1.size)
    have LX := hd own2
    clear own2
    clear b2
    obtain ⟨e01, e02, -⟩ := E0.out
    clear e01 e02
    have X0 := hd (Cl.new w2 (.slice B2 z.length d2) 31)
    have E0 := hd (E0.out.alloc (.cells #[.slice B2 z.length d2] 31))
    have LE := hd (LE.out.alloc (.cells #[.slice B2 z.length d2] 31))
    have LX := hd (LX.out.alloc (.cells #[.slice B2 z.length d2] 31))
    have k2 := k2.alloc k2.size (.cells #[.slice B2 z.length d2] 31)
    obtain ⟨e01, e02, -⟩ := E0.out
    obtain ⟨x01, x02, -⟩ := X0.out
    go_wp2_with fail
    refine (skewBack_sSkewEngine_r Ae ce _ cs z true _ rfl LE.out.sg Hsh.out Hz.out).mono ?_
    rintro e w3 ⟨B3, d3, rfl, own3, b3⟩
    clear e01 e02 x01 x02
    have E0 := hd (E0.out.below b3)
    have X0 := hd (X0.out.below b3)
    have LE := hd (LE.out.below b3)
    have LX := hd (LX.out.below b3)
    have k3 := k2.trans (b3.mono k2.size)
    have LW := hd own3
    clear own3
    clear b3
    obtain ⟨e01, e02, -⟩ := E0.out
    obtain ⟨x01, x02, -⟩ := X0.out
    clear e01 e02 x01 x02
    have W0 := hd (Cl.new w3 (.slice B3 z.length d3) 31)
    have E0 := hd (E0.out.alloc (.cells #[.slice B3 z.length d3] 31))
    have X0 := hd (X0.out.alloc (.cells #[.slice B3 z.length d3] 31))
    have LE := hd (LE.out.alloc (.cells #[.slice B3 z.length d3] 31))
    have LX := hd (LX.out.alloc (.cells #[.slice B3 z.length d3] 31))
    have LW := hd (LW.out.alloc (.cells #[.slice B3 z.length d3] 31))
    have k3 := k3.alloc k3.size (.cells #[.slice B3 z.length d3] 31)
    obtain ⟨e01, e02, -⟩ := E0.out
    obtain ⟨x01, x02, -⟩ := X0.out
    obtain ⟨w01, w02, -⟩ := W0.out
    go_wp2_with fail
    refine (deSame_same _ B2 B3 d2 d3 z _ rfl LX.out.sg LW.out.sg).mono ?_
    rintro e w4 ⟨rfl, b4⟩
    clear e01 e02 x01 x02 w01 w02
    have E0 := hd (E0.out.below b4)
    have X0 := hd (X0.out.below b4)
    have W0 := hd (W0.out.below b4)
    have LE := hd (LE.out.below b4)
    have LX := hd (LX.out.below b4)
    have LW := hd (LW.out.below b4)
    have k4 := k3.trans (b4.mono k3.size)
    clear b4
    obtain ⟨e01, e02, -⟩ := E0.out
    obtain ⟨x01, x02, -⟩ := X0.out
    obtain ⟨w01, w02, -⟩ := W0.out
    go_wp2_with fail
    refine (skewBack_UnskewEngine_r B2 d2 _ z cs true _ rfl LX.out.sg Hshz.out Hb.out).mono ?_
    rintro e w5 ⟨B5, d5, rfl, own5, b5⟩
    clear e01 e02 x01 x02 w01 w02
    have E0 := hd (E0.out.below b5)
    have X0 := hd (X0.out.below b5)
    have W0 := hd (W0.out.below b5)
    have LE := hd (LE.out.below b5)
    have LX := hd (LX.out.below b5)
    have LW := hd (LW.out.below b5)
    have k5 := k4.trans (b5.mono k4.size)
    have LY := hd own5
    clear own5
    clear b5
    obtain ⟨e01, e02, -⟩ := E0.out
    obtain ⟨x01, x02, -⟩ := X0.out
    obtain ⟨w01, w02, -⟩ := W0.out
    clear e01 e02 x01 x02 w01 w02
    have Y0 := hd (Cl.new w5 (.slice B5 cs.length d5) 31)
    have E0 := hd (E0.out.alloc (.cells #[.slice B5 cs.length d5] 31))
    have X0 := hd (X0.out.alloc (.cells #[.slice B5 cs.length d5] 31))
    have W0 := hd (W0.out.alloc (.cells #[.slice B5 cs.length d5] 31))
    have LE := hd (LE.out.alloc (.cells #[.slice B5 cs.length d5] 31))
    have LX := hd (LX.out.alloc (.cells #[.slice B5 cs.length d5] 31))
    have LW := hd (LW.out.alloc (.cells #[.slice B5 cs.length d5] 31))
    have LY := hd (LY.out.alloc (.cells #[.slice B5 cs.length d5] 31))
    have k5 := k5.alloc k5.size (.cells #[.slice B5 cs.length d5] 31)
    obtain ⟨e01, e02, -⟩ := E0.out
    obtain ⟨x01, x02, -⟩ := X0.out
    obtain ⟨w01, w02, -⟩ := W0.out
    obtain ⟨y01, y02, -⟩ := Y0.out
    have Bk := hd k5
    have Bw0 := hd (Below.refl (w5.alloc (.cells #[.slice B5 cs.length d5] 31)).heap.size (w5.alloc (.cells #[.slice B5 cs.length d5] 31)))
    obtain ⟨wk, hwk⟩ : ∃ x, x = (w5.alloc (.cells #[.slice B5 cs.length d5] 31)) := ⟨_, rfl⟩
    rw [← hwk] at Bw0
    have E0v := hd E0.out
    rw [← hwk] at E0v
    have X0v := hd X0.out
    rw [← hwk] at X0v
    have W0v := hd W0.out
    rw [← hwk] at W0v
    have Y0v := hd Y0.out
    rw [← hwk] at Y0v
    have LEv := hd LE.out
    rw [← hwk] at LEv
    have LXv := hd LX.out
    rw [← hwk] at LXv
    have LWv := hd LW.out
    rw [← hwk] at LWv
    have LYv := hd LY.out
    rw [← hwk] at LYv
    have Bkv := hd Bk.out
    rw [← hwk] at Bkv
    have Hwk := hd hwk
    go_wp2
    go_loopw [10] (fun i wr => ∃ k : Nat, k ≤ cs.length ∧ i = .int .i64 k ∧ Below wk.heap.size wk wr) (fun i _ => cs.length - (intOf i).toNat)
    case atStart => exact ⟨0, by omega, rfl, by rw [hwk]; exact Below.refl _ _⟩
    case round =>
      obtain ⟨k, hk, rfl, bw⟩ := hrel
      clear e01 e02 x01 x02 w01 w02 y01 y02
      clear hwk
      have E0 := hd (E0v.out.below bw)
      have X0 := hd (X0v.out.below bw)
      have W0 := hd (W0v.out.below bw)
      have Y0 := hd (Y0v.out.below bw)
      have LE := hd (LEv.out.below bw)
      have LX := hd (LXv.out.below bw)
      have LW := hd (LWv.out.below bw)
      have LY := hd (LYv.out.below bw)
      have Bk := hd (Bkv.out.trans (bw.mono Bkv.out.size))
      have Bw := hd bw
      clear bw
      obtain ⟨e01, e02, -⟩ := E0.out
      obtain ⟨x01, x02, -⟩ := X0.out
      obtain ⟨w01, w02, -⟩ := W0.out
      obtain ⟨y01, y02, -⟩ := Y0.out
      by_cases hlt : k < cs.length
      · have hl := Hl.out
        obtain ⟨a, Ha⟩ : ∃ a, Hid (val (vs.drop k) (-((k / 2 : Nat) : Int)) = a) := ⟨_, hd rfl⟩
        have Hza : Hid (z[k]? = some (showC W a)) := hd (by rw [Hz0.out, ← Ha.out]; exact eng_at (skewV_at (by omega)))
        obtain ⟨zt, hzt⟩ : ∃ zt, zt = eng W (manyV vs (-((k / 2 : Nat) : Int))) := ⟨_, rfl⟩
        have Hmz : Hid ((manyF (-((k / 2 : Nat) : Int)) cs).getD [] = zt) := hd (by rw [hzt]; exact Hmf.out _ (by simp [inB]; omega))
        have Htl : Hid (zt.length = cs.length) := hd (by rw [hzt, eng_length, manyV_length, Hl.out])
        have Hta : Hid (zt[k]? = some (showC W a)) := hd (by rw [hzt, ← Ha.out]; exact eng_at (manyV_at _ (by omega)))
        obtain ⟨s3, b3, o3, hs3, hA3, hb3, hc3⟩ := LX.out.sg.at_ (k := k) (by rw [Hzl.out]; omega)
        obtain rfl : s3 = showC W a := Option.some.inj (hs3.symm.trans Hza.out)
        have E0u := hd E0.out
        have X0u := hd X0.out
        have LEu := hd LE.out
        have Bwu := hd Bw.out
        subst hA3
        have E0 := hd E0u.out
        have X0 := hd X0u.out
        have LE := hd LEu.out
        have Bw := hd Bwu.out
        clear e01 e02 x01 x02 w01 w02 y01 y02
        obtain ⟨e01, e02, -⟩ := E0.out
        obtain ⟨x01, x02, -⟩ := X0.out
        obtain ⟨w01, w02, -⟩ := W0.out
        obtain ⟨y01, y02, -⟩ := Y0.out
        have hfld := run_field0
        have hzl2 : k < z.length := by have := Hzl.out; omega
        have e8 : (k : Int) < z.length := by omega
        have e1 : (k : Int) < cs.length := by omega
        have Hq : Hid (IntKind.i64.wrap (-IntKind.i64.wrap ((k : Int) / 2)) = -((k / 2 : Nat) : Int)) := hd (by rw [IntWalk.i64_in ((k : Int) / 2) (by omega), IntWalk.i64_in _ (by omega)]; omega)
        clear hs3 hl hzt
        go_wp2
        go_region_law ((go_simp; go_at_call 68; refine (deTurned_r Ae ce _ cs zt (-((k / 2 : Nat) : Int)) _ wr.drew (by first | exact Hq.out | omega) rfl LE.out.drew.sg Hsh.out Hmz.out).mono ?_; rintro e w9 ⟨B9, d9, rfl, own9, b9⟩; have X9 := hd (X0.out.drew.below b9); have E9 := hd (E0.out.drew.below b9); have Bw9 := hd (Bw.out.drew.trans (b9.mono Bw.out.size)); have hc3 : w9.cell? ⟨b3, o3 + k, none⟩ = some (.string (showC W a)) := (b9.cell (p := ⟨b3, o3 + k, none⟩) hb3).trans hc3; obtain ⟨g9, s9, hs9, hB9, hc9, hf9⟩ := own9.at_ (k := k) (by rw [Htl.out]; exact hlt); obtain rfl : s9 = showC W a := Option.some.inj (hs9.symm.trans Hta.out); subst hB9; rw [Htl.out]; clear e01 e02 x01 x02 w01 w02 y01 y02; clear b9 own9 hs9; obtain ⟨x01, x02, -⟩ := X9.out; obtain ⟨e01, e02, -⟩ := E9.out))
        all_goals
          go_wp2
          go_roundw
          case rel => exact ⟨k + 1, by omega, by go_num, Bw9.out⟩
          case measure => simp [intOf] <;> omega
      · have hke : k = cs.length := by omega
        have k20 := Bk.out
        have hl := Hl.out
        obtain ⟨a, Ha⟩ : ∃ a, Hid (vs[0]? = some a) := ⟨vs[0]'(by omega), hd (List.getElem?_eq_getElem _)⟩
        have Hea : Hid (cs[0]? = some (showC W a)) := hd (by have h2 := He.out; rw [h2]; exact eng_at Ha.out)
        have Hza : Hid (z[0]? = some (showC W a)) := hd (by rw [Hz0.out]; refine eng_at ?_; rw [skewV_at (by omega)]; congr 1; have := val_drop_zero vs 0; rw [getD_at Ha.out] at this; exact this)
        obtain ⟨s1, b1, o1, hs1, hA1, hb1, hc1⟩ := LE.out.sg.at_ (k := 0) (by omega)
        obtain ⟨s3, b3, o3, hs3, hA3, hb3, hc3⟩ := LX.out.sg.at_ (k := 0) (by rw [Hzl.out]; omega)
        obtain rfl : s1 = showC W a := Option.some.inj (hs1.symm.trans Hea.out)
        obtain rfl : s3 = showC W a := Option.some.inj (hs3.symm.trans Hza.out)
        have E0u := hd E0.out
        have X0u := hd X0.out
        have W0u := hd W0.out
        have Y0u := hd Y0.out
        have LEu := hd LE.out
        have LXu := hd LX.out
        have LWu := hd LW.out
        have LYu := hd LY.out
        subst hA1 hA3
        have E0 := hd E0u.out
        have X0 := hd X0u.out
        have W0 := hd W0u.out
        have Y0 := hd Y0u.out
        have LE := hd LEu.out
        have LX := hd LXu.out
        have LW := hd LWu.out
        have LY := hd LYu.out
        clear e01 e02 x01 x02 w01 w02 y01 y02
        obtain ⟨e01, e02, -⟩ := E0.out
        obtain ⟨x01, x02, -⟩ := X0.out
        obtain ⟨w01, w02, -⟩ := W0.out
        obtain ⟨y01, y02, -⟩ := Y0.out
        rw [Nat.add_zero] at hc1 hc3
        have hzl2 : 0 < z.length := by have := Hzl.out; omega
        have e6 : 0 < cs.length := by omega
        have e7 : (0 : Int) < cs.length := by omega
        have e8 : (0 : Int) < z.length := by omega
        clear hs1 hs3 hl hke hk
        go_wp2
        go_region_held3 (fun w' => w'.cell? ⟨w1.heap.size, 0, none⟩ = some (.slice (some ⟨b1, o1, none⟩) cs.length ce) ∧ w'.cell? ⟨w2.heap.size, 0, none⟩ = some (.slice (some ⟨b3, o3, none⟩) z.length d2) ∧ w'.cell? ⟨w5.heap.size, 0, none⟩ = some (.slice B5 cs.length d5) ∧ w'.cell? ⟨b1, o1, none⟩ = some (.string (showC W a)) ∧ w'.cell? ⟨b3, o3, none⟩ = some (.string (showC W a))) (first | exact ⟨e01, x01, y01, hc1, hc3⟩ | go_keep) (first | (go_simp; go_at_call 55; refine (deSame_same _ B5 _ d5 ce cs wr.drew rfl LY.out.sg LE.out.sg).mono ?_; rintro e w21 ⟨rfl, b21⟩; have hc1 : w21.cell? ⟨b1, o1, none⟩ = some (.string (showC W a)) := (b21.cell (p := ⟨b1, o1, none⟩) hb1).trans hc1; have hc3 : w21.cell? ⟨b3, o3, none⟩ = some (.string (showC W a)) := (b21.cell (p := ⟨b3, o3, none⟩) hb3).trans hc3; clear e01 e02 x01 x02 w01 w02 y01 y02; have E0 := hd (E0.out.drew.below b21); have X0 := hd (X0.out.drew.below b21); have W0 := hd (W0.out.drew.below b21); have Y0 := hd (Y0.out.drew.below b21); have LE := hd (LE.out.drew.below b21); have LX := hd (LX.out.drew.below b21); have LW := hd (LW.out.drew.below b21); have LY := hd (LY.out.drew.below b21); have k21 := k20.drew.trans (b21.mono k20.size); clear b21; obtain ⟨e01, e02, -⟩ := E0.out; obtain ⟨x01, x02, -⟩ := X0.out; obtain ⟨w01, w02, -⟩ := W0.out; obtain ⟨y01, y02, -⟩ := Y0.out))
        go_wp2
        go_ret
        exact ⟨rfl, k21⟩

end Go.Proofs.Ytcalheieakppmaa
