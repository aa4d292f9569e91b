/- The walk of the law TurnColumns: the law returns true, whatever the input. -/
import Derived.Test.YtcalheieakppmaaLwJ
import Derived.Test.YtcalheieakppmaaSpeR
import Derived.Deep.RegionHeld3
namespace Go.Proofs.Ytcalheieakppmaa
open Go.RowKit
set_option maxRecDepth 4000

theorem turnColumns_sTurnWhole_r (A : Option Addr) (c n : Nat) (cs z : List ByteArray) (ok : Bool) (w : World) (hn : cs.length = n) (h : SS w A cs) (hs : Short cs) (hz : (turnF (manyV · 1) cs).getD [] = z ∧ (turnF (manyV · 1) cs).isSome = ok) :
    Calls Try.prog 63 #[.agg #[.slice A n c]] w fun e w' => RetEB 9 w.heap.size w z ok e w' := by
  obtain ⟨rfl, rfl⟩ := hz
  subst hn
  exact sTurnWhole_any A c cs w h hs

theorem turnColumns_TurnBack_r (A : Option Addr) (c n : Nat) (cs z : List ByteArray) (ok : Bool) (w : World) (hn : cs.length = n) (h : SS w A cs) (hs : Short cs) (hz : (turnF (manyV · (-1)) cs).getD [] = z ∧ (turnF (manyV · (-1)) cs).isSome = ok) :
    Calls Try.prog 58 #[.agg #[.slice A n c]] w fun e w' => RetEB 9 w.heap.size w z ok e w' := by
  obtain ⟨rfl, rfl⟩ := hz
  subst hn
  exact TurnBack_any A c cs w h hs

theorem turnColumns_TurnWhole_r (A : Option Addr) (c n : Nat) (cs z : List ByteArray) (ok : Bool) (w : World) (hn : cs.length = n) (h : SS w A cs) (hs : Short cs) (hz : (turnF (manyV · 1) cs).getD [] = z ∧ (turnF (manyV · 1) cs).isSome = ok) :
    Calls Try.prog 60 #[.agg #[.slice A n c]] w fun e w' => RetEB 9 w.heap.size w z ok e w' := by
  obtain ⟨rfl, rfl⟩ := hz
  subst hn
  exact TurnWhole_any A c cs w h hs

theorem TurnColumns_big (A : Option Addr) (c n : Nat) (w : World) (h1 : 1048576 < n) (h2 : n ≤ 9223372036854775807) :
    Calls Try.prog 14 #[.slice A n c] w fun e w' => e = .returned (.bool true) ∧ Below w.heap.size w w' := by
  have hbig' : (1048576 : Int) < n := by omega
  go_enter Try.func14, Try.ntmps14
  go_wp2
  go_ret
  exact ⟨rfl, Below.refl _ _⟩

set_option maxHeartbeats 16000000 in
theorem TurnColumns_walk (A : Option Addr) (c : Nat) (zs : List Int) (w : World) (h : SR w A (zs.map (Value.int .u8))) (hbig : zs.length ≤ 1048576) (hcap : zs.length ≤ c) (hx : ∀ x ∈ zs, 0 ≤ x ∧ x ≤ 255) :
    Calls Try.prog 14 #[.slice A zs.length c] w fun e w' => e = .returned (.bool true) ∧ Below w.heap.size w w' := by
  have H := hd h
  have Hx := hd hx
  have hbig' : ¬ (1048576 : Int) < zs.length := by omega
  clear h hx
  go_enter Try.func14, Try.ntmps14
  go_wp2_with fail
  refine (DrawTurnWhole_any A c zs _ H.out hcap Hx.out).mono ?_
  rintro e w1 ⟨Ae, ce, cs, rfl, ⟨hl8, hsz⟩, own1, k1⟩
  have Hsh := hd (hsz.short (by decide))
  have LE := hd own1
  clear hsz own1
  have E0 := hd (Cl.new w1 (.slice Ae cs.length ce) 31)
  have LE := hd (LE.out.alloc (.cells #[.slice Ae cs.length ce] 31))
  have k1 := k1.alloc k1.size (.cells #[.slice Ae cs.length ce] 31)
  obtain ⟨e01, e02, -⟩ := E0.out
  cases hv : engV cs
  · obtain ⟨z, hz0⟩ : ∃ z : List ByteArray, z = [] := ⟨_, rfl⟩
    have Hz : Hid ((turnF (manyV · 1) cs).getD [] = z ∧ (turnF (manyV · 1) cs).isSome = false) := hd (by rw [turnF_none hv, hz0]; exact ⟨rfl, rfl⟩)
    clear hz0 hv
    go_wp2_with fail
    refine (turnColumns_TurnWhole_r Ae ce _ cs z false _ rfl LE.out.sg Hsh.out Hz.out).mono ?_
    rintro e w2 ⟨B2, d2, rfl, own2, b2⟩
    clear e01 e02
    have E0 := hd (E0.out.below b2)
    have LE := hd (LE.out.below b2)
    have k2 := k1.trans (b2.mono k1.size)
    have LX := hd own2
    clear own2
    clear b2
    obtain ⟨e01, e02, -⟩ := E0.out
    clear e01 e02
    have X0 := hd (Cl.new w2 (.slice B2 z.length d2) 31)
    have E0 := hd (E0.out.alloc (.cells #[.slice B2 z.length d2] 31))
    have LE := hd (LE.out.alloc (.cells #[.slice B2 z.length d2] 31))
    have LX := hd (LX.out.alloc (.cells #[.slice B2 z.length d2] 31))
    have k2 := k2.alloc k2.size (.cells #[.slice B2 z.length d2] 31)
    obtain ⟨e01, e02, -⟩ := E0.out
    obtain ⟨x01, x02, -⟩ := X0.out
    go_wp2_with fail
    refine (turnColumns_sTurnWhole_r Ae ce _ cs z false _ rfl LE.out.sg Hsh.out Hz.out).mono ?_
    rintro e w3 ⟨B3, d3, rfl, own3, b3⟩
    clear e01 e02 x01 x02
    have E0 := hd (E0.out.below b3)
    have X0 := hd (X0.out.below b3)
    have LE := hd (LE.out.below b3)
    have LX := hd (LX.out.below b3)
    have k3 := k2.trans (b3.mono k2.size)
    have LW := hd own3
    clear own3
    clear b3
    obtain ⟨e01, e02, -⟩ := E0.out
    obtain ⟨x01, x02, -⟩ := X0.out
    clear e01 e02 x01 x02
    have W0 := hd (Cl.new w3 (.slice B3 z.length d3) 31)
    have E0 := hd (E0.out.alloc (.cells #[.slice B3 z.length d3] 31))
    have X0 := hd (X0.out.alloc (.cells #[.slice B3 z.length d3] 31))
    have LE := hd (LE.out.alloc (.cells #[.slice B3 z.length d3] 31))
    have LX := hd (LX.out.alloc (.cells #[.slice B3 z.length d3] 31))
    have LW := hd (LW.out.alloc (.cells #[.slice B3 z.length d3] 31))
    have k3 := k3.alloc k3.size (.cells #[.slice B3 z.length d3] 31)
    obtain ⟨e01, e02, -⟩ := E0.out
    obtain ⟨x01, x02, -⟩ := X0.out
    obtain ⟨w01, w02, -⟩ := W0.out
    go_wp2_with fail
    refine (deSame_same _ B2 B3 d2 d3 z _ rfl LX.out.sg LW.out.sg).mono ?_
    rintro e w4 ⟨rfl, b4⟩
    clear e01 e02 x01 x02 w01 w02
    have E0 := hd (E0.out.below b4)
    have X0 := hd (X0.out.below b4)
    have W0 := hd (W0.out.below b4)
    have LE := hd (LE.out.below b4)
    have LX := hd (LX.out.below b4)
    have LW := hd (LW.out.below b4)
    have k4 := k3.trans (b4.mono k3.size)
    clear b4
    obtain ⟨e01, e02, -⟩ := E0.out
    obtain ⟨x01, x02, -⟩ := X0.out
    obtain ⟨w01, w02, -⟩ := W0.out
    go_wp2_with fail
    refine (deSame_same _ B2 B3 d2 d3 z _ rfl LX.out.sg LW.out.sg).mono ?_
    rintro e w5 ⟨rfl, b5⟩
    clear e01 e02 x01 x02 w01 w02
    have E0 := hd (E0.out.below b5)
    have X0 := hd (X0.out.below b5)
    have W0 := hd (W0.out.below b5)
    have LE := hd (LE.out.below b5)
    have LX := hd (LX.out.below b5)
    have LW := hd (LW.out.below b5)
    have k5 := k4.trans (b5.mono k4.size)
    clear b5
    obtain ⟨e01, e02, -⟩ := E0.out
    obtain ⟨x01, x02, -⟩ := X0.out
    obtain ⟨w01, w02, -⟩ := W0.out
    go_wp2
    go_ret
    exact ⟨rfl, k5⟩
  · obtain ⟨z, hz0⟩ : ∃ z : List ByteArray, z = eng (hsz cs) (manyV (cvs cs) 1) := ⟨_, rfl⟩
    have Hz : Hid ((turnF (manyV · 1) cs).getD [] = z ∧ (turnF (manyV · 1) cs).isSome = true) := hd (by rw [turnF_some hv, hz0]; exact ⟨rfl, rfl⟩)
    have hb := turnF_turnF (f := (manyV · 1)) (g := (manyV · (-1))) hv (fun _ => manyV_length _ _) hz0 (fun _ _ _ h => h.many (-1))
    have Hb : Hid ((turnF (manyV · (-1)) z).getD [] = cs ∧ (turnF (manyV · (-1)) z).isSome = true) := hd (by rw [hb.2]; refine ⟨?_, rfl⟩; rw [Option.getD_some]; rw [manyV_manyV, show (-1 : Int) + 1 = 0 from rfl, manyV_zero]; exact (engV_vals hv).1.symm)
    have Hshz := hd (eng_short' hb.1)
    obtain ⟨hee, hW1, hW12, hn1, hn7⟩ := engV_vals hv
    obtain ⟨W, hW⟩ : ∃ W, W = hsz cs := ⟨_, rfl⟩
    obtain ⟨vs, hvs⟩ : ∃ vs, vs = cvs cs := ⟨_, rfl⟩
    have Hl : Hid (vs.length = cs.length) := hd (by rw [hvs]; simp [cvs])
    rw [← hW, ← hvs] at hee hz0
    rw [← hW] at hW1 hW12
    rw [← hvs] at hn1 hn7
    rw [Hl.out] at hn1 hn7
    have Hzl : Hid (z.length = cs.length) := hd (by rw [hz0, eng_length, manyV_length, Hl.out])
    have He := hd hee
    have Hz0 := hd hz0
    clear hz0 hv hb hee hW hvs
    go_wp2_with fail
    refine (turnColumns_TurnWhole_r Ae ce _ cs z true _ rfl LE.out.sg Hsh.out Hz.out).mono ?_
    rintro e w2 ⟨B2, d2, rfl, own2, b2⟩
    clear e01 e02
    have E0 := hd (E0.out.below b2)
    have LE := hd (LE.out.below b2)
    have k2 := k1.trans (b2.mono k1.size)
    have LX := hd own2
    clear own2
    clear b2
    obtain ⟨e01, e02, -⟩ := E0.out
    clear e01 e02
    have X0 := hd (Cl.new w2 (.slice B2 z.length d2) 31)
    have E0 := hd (E0.out.alloc (.cells #[.slice B2 z.length d2] 31))
    have LE := hd (LE.out.alloc (.cells #[.slice B2 z.length d2] 31))
    have LX := hd (LX.out.alloc (.cells #[.slice B2 z.length d2] 31))
    have k2 := k2.alloc k2.size (.cells #[.slice B2 z.length d2] 31)
    obtain ⟨e01, e02, -⟩ := E0.out
    obtain ⟨x01, x02, -⟩ := X0.out
    go_wp2_with fail
    refine (turnColumns_sTurnWhole_r Ae ce _ cs z true _ rfl LE.out.sg Hsh.out Hz.out).mono ?_
    rintro e w3 ⟨B3, d3, rfl, own3, b3⟩
    clear e01 e02 x01 x02
    have E0 := hd (E0.out.below b3)
    have X0 := hd (X0.out.below b3)
    have LE := hd (LE.out.below b3)
    have LX := hd (LX.out.below b3)
    have k3 := k2.trans (b3.mono k2.size)
    have LW := hd own3
    clear own3
    clear b3
    obtain ⟨e01, e02, -⟩ := E0.out
    obtain ⟨x01, x02, -⟩ := X0.out
    clear e01 e02 x01 x02
    have W0 := hd (Cl.new w3 (.slice B3 z.length d3) 31)
    have E0 := hd (E0.out.alloc (.cells #[.slice B3 z.length d3] 31))
    have X0 := hd (X0.out.alloc (.cells #[.slice B3 z.length d3] 31))
    have LE := hd (LE.out.alloc (.cells #[.slice B3 z.length d3] 31))
    have LX := hd (LX.out.alloc (.cells #[.slice B3 z.length d3] 31))
    have LW := hd (LW.out.alloc (.cells #[.slice B3 z.length d3] 31))
    have k3 := k3.alloc k3.size (.cells #[.slice B3 z.length d3] 31)
    obtain ⟨e01, e02, -⟩ := E0.out
    obtain ⟨x01, x02, -⟩ := X0.out
    obtain ⟨w01, w02, -⟩ := W0.out
    go_wp2_with fail
    refine (deSame_same _ B2 B3 d2 d3 z _ rfl LX.out.sg LW.out.sg).mono ?_
    rintro e w4 ⟨rfl, b4⟩
    clear e01 e02 x01 x02 w01 w02
    have E0 := hd (E0.out.below b4)
    have X0 := hd (X0.out.below b4)
    have W0 := hd (W0.out.below b4)
    have LE := hd (LE.out.below b4)
    have LX := hd (LX.out.below b4)
    have LW := hd (LW.out.below b4)
    have k4 := k3.trans (b4.mono k3.size)
    clear b4
    obtain ⟨e01, e02, -⟩ := E0.out
    obtain ⟨x01, x02, -⟩ := X0.out
    obtain ⟨w01, w02, -⟩ := W0.out
    have Bk := hd k4
    obtain ⟨wk, hwk⟩ : ∃ x, x = w4 := ⟨_, rfl⟩
    go_wp2
    go_loopw [9] (fun i wr => ∃ k : Nat, k + 1 ≤ cs.length ∧ i = .int .i64 k ∧ Below w4.heap.size w4 wr) (fun i _ => cs.length - (intOf i).toNat)
    case atStart => exact ⟨0, by omega, rfl, Below.refl _ _⟩
    case round =>
      obtain ⟨k, hk, rfl, bw⟩ := hrel
      clear e01 e02 x01 x02 w01 w02
      have E0 := hd (E0.out.below bw)
      have X0 := hd (X0.out.below bw)
      have W0 := hd (W0.out.below bw)
      have LE := hd (LE.out.below bw)
      have LX := hd (LX.out.below bw)
      have Bk := hd (Bk.out.trans (bw.mono Bk.out.size))
      have Bw := hd bw
      clear bw
      obtain ⟨e01, e02, -⟩ := E0.out
      obtain ⟨x01, x02, -⟩ := X0.out
      obtain ⟨w01, w02, -⟩ := W0.out
      by_cases hlt : k + 1 < cs.length
      · have hl := Hl.out
        obtain ⟨a, Ha⟩ : ∃ a, Hid (vs[k]? = some a) := ⟨vs[k]'(by omega), hd (List.getElem?_eq_getElem _)⟩
        obtain ⟨b, Hb2⟩ : ∃ b, Hid (vs[k + 1]? = some b) := ⟨vs[k + 1]'(by omega), hd (List.getElem?_eq_getElem _)⟩
        have Hea : Hid (cs[k]? = some (showC W a)) := hd (by have h2 := He.out; rw [h2]; exact eng_at Ha.out)
        have Heb : Hid (cs[k + 1]? = some (showC W b)) := hd (by have h2 := He.out; rw [h2]; exact eng_at Hb2.out)
        have Hza : Hid (z[k]? = some (showC W (a + b))) := hd (by rw [Hz0.out]; exact eng_at (manyV_one_at Ha.out Hb2.out))
        obtain ⟨s1, b1, o1, hs1, hA1, hb1, hc1⟩ := LE.out.sg.at_ (k := k) (by omega)
        obtain ⟨s2, b2, o2, hs2, hA2, hb2, hc2⟩ := LE.out.sg.at_ (k := k + 1) hlt
        obtain ⟨s3, b3, o3, hs3, hA3, hb3, hc3⟩ := LX.out.sg.at_ (k := k) (by rw [Hzl.out]; omega)
        obtain rfl : s1 = showC W a := Option.some.inj (hs1.symm.trans Hea.out)
        obtain rfl : s2 = showC W b := Option.some.inj (hs2.symm.trans Heb.out)
        obtain rfl : s3 = showC W (a + b) := Option.some.inj (hs3.symm.trans Hza.out)
        have E0u := hd E0.out
        have X0u := hd X0.out
        have Bwu := hd Bw.out
        subst hA1
        simp only [Option.some.injEq, Addr.mk.injEq, and_true] at hA2
        obtain ⟨rfl, rfl⟩ := hA2
        subst hA3
        have E0 := hd E0u.out
        have X0 := hd X0u.out
        have Bw := hd Bwu.out
        clear e01 e02 x01 x02 w01 w02
        obtain ⟨e01, e02, -⟩ := E0.out
        obtain ⟨x01, x02, -⟩ := X0.out
        obtain ⟨w01, w02, -⟩ := W0.out
        have hzn : (z.length : Int) = cs.length := by have := Hzl.out; omega
        have hzl2 : k < z.length := by have := Hzl.out; omega
        have e1 : (k : Int) < cs.length := by omega
        have e2 : (k : Int) + 1 < cs.length := by omega
        have e3 : IntKind.i64.wrap ((k : Int) + 1) = (k : Int) + 1 := IntWalk.i64_in _ (by omega)
        have e4 : ((k : Int) + 1).toNat = k + 1 := by omega
        have e5 : (0 : Int) ≤ (k : Int) + 1 := by omega
        have e6 : k < cs.length := by omega
        clear hs1 hs2 hs3 hl
        go_wp2
        go_region_held3 (fun w' => w'.cell? ⟨w1.heap.size, 0, none⟩ = some (.slice (some ⟨b1, o1, none⟩) cs.length ce) ∧ w'.cell? ⟨b1, o1 + k, none⟩ = some (.string (showC W a)) ∧ w'.cell? ⟨b1, o1 + (k + 1), none⟩ = some (.string (showC W b))) (first | exact ⟨e01, hc1, hc2⟩ | go_keep) (first | (go_simp; go_at_call 56; refine (AddColumns_c W a b wr.drew hW1 hW12).mono ?_; rintro e w9 ⟨rfl, b9⟩; have X9 := hd (X0.out.drew.below b9); have E9 := hd (E0.out.drew.below b9); have Bw9 := hd (Bw.out.drew.trans (b9.mono Bw.out.size)); have hc1 : w9.cell? ⟨b1, o1 + k, none⟩ = some (.string (showC W a)) := (b9.cell (p := ⟨b1, o1 + k, none⟩) hb1).trans hc1; have hc2 : w9.cell? ⟨b1, o1 + (k + 1), none⟩ = some (.string (showC W b)) := (b9.cell (p := ⟨b1, o1 + (k + 1), none⟩) hb1).trans hc2; have hc3 : w9.cell? ⟨b3, o3 + k, none⟩ = some (.string (showC W (a + b))) := (b9.cell (p := ⟨b3, o3 + k, none⟩) hb3).trans hc3; clear e01 e02 x01 x02 w01 w02; clear b9; obtain ⟨x01, x02, -⟩ := X9.out; obtain ⟨e01, e02, -⟩ := E9.out))
        go_wp2
        go_roundw
        case rel => exact ⟨k + 1, by omega, by go_num, Bw9.out⟩
        case measure => simp [intOf] <;> omega
      · have hke : k + 1 = cs.length := by omega
        have k20 := Bk.out
        go_wp2_with fail
        refine (turnColumns_TurnBack_r B2 d2 _ z cs true _ rfl LX.out.sg Hshz.out Hb.out).mono ?_
        rintro e w21 ⟨B21, d21, rfl, own21, b21⟩
        clear e01 e02 x01 x02 w01 w02
        have E0 := hd (E0.out.below b21)
        have X0 := hd (X0.out.below b21)
        have W0 := hd (W0.out.below b21)
        have LE := hd (LE.out.below b21)
        have LX := hd (LX.out.below b21)
        have k21 := k20.trans (b21.mono k20.size)
        have LY := hd own21
        clear own21
        clear b21
        obtain ⟨e01, e02, -⟩ := E0.out
        obtain ⟨x01, x02, -⟩ := X0.out
        obtain ⟨w01, w02, -⟩ := W0.out
        clear e01 e02 x01 x02 w01 w02
        have Y0 := hd (Cl.new w21 (.slice B21 cs.length d21) 31)
        have E0 := hd (E0.out.alloc (.cells #[.slice B21 cs.length d21] 31))
        have X0 := hd (X0.out.alloc (.cells #[.slice B21 cs.length d21] 31))
        have W0 := hd (W0.out.alloc (.cells #[.slice B21 cs.length d21] 31))
        have LE := hd (LE.out.alloc (.cells #[.slice B21 cs.length d21] 31))
        have LX := hd (LX.out.alloc (.cells #[.slice B21 cs.length d21] 31))
        have LY := hd (LY.out.alloc (.cells #[.slice B21 cs.length d21] 31))
        have k21 := k21.alloc k21.size (.cells #[.slice B21 cs.length d21] 31)
        obtain ⟨e01, e02, -⟩ := E0.out
        obtain ⟨x01, x02, -⟩ := X0.out
        obtain ⟨w01, w02, -⟩ := W0.out
        obtain ⟨y01, y02, -⟩ := Y0.out
        have hl := Hl.out
        obtain ⟨a, Ha⟩ : ∃ a, Hid (vs[k]? = some a) := ⟨vs[k]'(by omega), hd (List.getElem?_eq_getElem _)⟩
        have Hea : Hid (cs[k]? = some (showC W a)) := hd (by have h2 := He.out; rw [h2]; exact eng_at Ha.out)
        have Hza : Hid (z[k]? = some (showC W a)) := hd (by rw [Hz0.out]; exact eng_at (by rw [manyV_last 1 (by omega)]; exact Ha.out))
        obtain ⟨s1, b1, o1, hs1, hA1, hb1, hc1⟩ := LE.out.sg.at_ (k := k) (by omega)
        obtain ⟨s3, b3, o3, hs3, hA3, hb3, hc3⟩ := LX.out.sg.at_ (k := k) (by rw [Hzl.out]; omega)
        obtain rfl : s1 = showC W a := Option.some.inj (hs1.symm.trans Hea.out)
        obtain rfl : s3 = showC W a := Option.some.inj (hs3.symm.trans Hza.out)
        have E0u := hd E0.out
        have X0u := hd X0.out
        have W0u := hd W0.out
        have Y0u := hd Y0.out
        have LEu := hd LE.out
        have LXu := hd LX.out
        have LYu := hd LY.out
        subst hA1 hA3
        have E0 := hd E0u.out
        have X0 := hd X0u.out
        have W0 := hd W0u.out
        have Y0 := hd Y0u.out
        have LE := hd LEu.out
        have LX := hd LXu.out
        have LY := hd LYu.out
        clear e01 e02 x01 x02 w01 w02 y01 y02
        obtain ⟨e01, e02, -⟩ := E0.out
        obtain ⟨x01, x02, -⟩ := X0.out
        obtain ⟨w01, w02, -⟩ := W0.out
        obtain ⟨y01, y02, -⟩ := Y0.out
        have hzl2 : k < z.length := by have := Hzl.out; omega
        have hlast : (cs.length : Int) - 1 = k := by omega
        have e0 : IntKind.i64.wrap ((cs.length : Int) - 1) = k := by rw [hlast]; exact IntWalk.i64_in _ (by omega)
        have e6 : k < cs.length := by omega
        have e7 : (k : Int) < cs.length := by omega
        have e8 : (k : Int) < z.length := by omega
        clear hs1 hs3 hl
        go_wp2
        go_region_held3 (fun w' => w'.cell? ⟨w1.heap.size, 0, none⟩ = some (.slice (some ⟨b1, o1, none⟩) cs.length ce) ∧ w'.cell? ⟨w2.heap.size, 0, none⟩ = some (.slice (some ⟨b3, o3, none⟩) z.length d2) ∧ w'.cell? ⟨w21.heap.size, 0, none⟩ = some (.slice B21 cs.length d21) ∧ w'.cell? ⟨b1, o1 + k, none⟩ = some (.string (showC W a)) ∧ w'.cell? ⟨b3, o3 + k, none⟩ = some (.string (showC W a))) (first | exact ⟨e01, x01, y01, hc1, hc3⟩ | go_keep) (first | (go_simp; go_at_call 55; refine (deSame_same _ B21 _ d21 ce cs (w21.alloc (.cells #[.slice B21 cs.length d21] 31)).drew rfl LY.out.sg LE.out.sg).mono ?_; rintro e w22 ⟨rfl, b22⟩; have hc1 : w22.cell? ⟨b1, o1 + k, none⟩ = some (.string (showC W a)) := (b22.cell (p := ⟨b1, o1 + k, none⟩) hb1).trans hc1; have hc3 : w22.cell? ⟨b3, o3 + k, none⟩ = some (.string (showC W a)) := (b22.cell (p := ⟨b3, o3 + k, none⟩) hb3).trans hc3; clear e01 e02 x01 x02 w01 w02 y01 y02; have E0 := hd (E0.out.drew.below b22); have X0 := hd (X0.out.drew.below b22); have W0 := hd (W0.out.drew.below b22); have Y0 := hd (Y0.out.drew.below b22); have LE := hd (LE.out.drew.below b22); have LX := hd (LX.out.drew.below b22); have LY := hd (LY.out.drew.below b22); have k22 := k21.drew.trans (b22.mono k21.size); clear b22; obtain ⟨e01, e02, -⟩ := E0.out; obtain ⟨x01, x02, -⟩ := X0.out; obtain ⟨w01, w02, -⟩ := W0.out; obtain ⟨y01, y02, -⟩ := Y0.out))
        go_wp2
        go_ret
        exact ⟨rfl, k22⟩

end Go.Proofs.Ytcalheieakppmaa
