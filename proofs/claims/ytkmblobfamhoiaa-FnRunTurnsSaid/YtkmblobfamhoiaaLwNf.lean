/- The walk of the law RunTurns: the law returns true, whatever the input. -/
import Derived.Test.YtkmblobfamhoiaaLwQ
import Derived.Test.YtkmblobfamhoiaaLwL
import Derived.Test.YtkmblobfamhoiaaLwM
import Derived.Test.YtkmblobfamhoiaaDrawP
import Derived.Deep.RegionHeld3
namespace Go.Proofs.Ytkmblobfamhoiaa
open Go.RowKit
set_option maxRecDepth 4000

theorem deTurned_z (A : Option Addr) (c n : Nat) (cs z : List ByteArray) (N NI : Int) (w : World) (hN : NI = N) (hn : cs.length = n) (h : SS w A cs) (hs : Short cs) (hz : manyF N cs = some z) :
    Calls Try.prog 35 #[.agg #[.slice A n c], .int .i64 NI] w fun e w' => RetE 9 w.heap.size w z e w' := deTurned_r A c n cs z N NI w hN hn h hs (by rw [hz]; rfl)

theorem RunTurns_big (A : Option Addr) (c n : Nat) (w : World) (h1 : 1048576 < n) (h2 : n ≤ 9223372036854775807) :
    Calls Try.prog 13 #[.slice A n c] w fun e w' => e = .returned (.bool true) ∧ Below w.heap.size w w' := by
  have hbig' : (1048576 : Int) < n := by omega
  go_enter Try.func13, Try.ntmps13
  go_wp2
  go_ret
  exact ⟨rfl, Below.refl _ _⟩

set_option maxHeartbeats 8000000 in
theorem RunTurns_walk (A : Option Addr) (c : Nat) (zs : List Int) (w : World) (h : SR w A (zs.map (Value.int .u8))) (hbig : zs.length ≤ 1048576) (hcap : zs.length ≤ c) (hx : ∀ x ∈ zs, 0 ≤ x ∧ x ≤ 255) :
    Calls Try.prog 13 #[.slice A zs.length c] w fun e w' => e = .returned (.bool true) ∧ Below w.heap.size w w' := by
  have H := hd h
  have Hx := hd hx
  have hbig' : ¬ (1048576 : Int) < zs.length := by omega
  clear h hx
  go_enter Try.func13, Try.ntmps13
  go_wp2_with fail
  refine (DrawRunEngine_any A c zs _ H.out hcap Hx.out).mono ?_
  rintro e w1 ⟨Ae, ce, cs, v, rfl, ⟨hl8, hsz⟩, own1, k1, hv64⟩
  have Hsh := hd (hsz.short (by decide))
  have LE := hd own1
  clear hsz own1
  have E0 := hd (Cl.new w1 (.slice Ae cs.length ce) 36)
  have LE := hd (LE.out.alloc (.cells #[.slice Ae cs.length ce] 36))
  have k1 := k1.alloc k1.size (.cells #[.slice Ae cs.length ce] 36)
  obtain ⟨e01, e02, -⟩ := E0.out
  cases hm : runF (manyV · 1) v cs with
  | none =>
    obtain ⟨z, hz0⟩ : ∃ z : List Int, z = [] := ⟨_, rfl⟩
    have Hz : Hid ((runF (manyV · 1) v cs).getD [] = z ∧ (runF (manyV · 1) v cs).isSome = false) := hd (by rw [hm, hz0]; exact ⟨rfl, rfl⟩)
    have Hm : Hid (engV cs = true → 0 ≤ v → 60 < v) := hd (fun h1 h2 => by rcases Int.lt_or_le 60 v with h3 | h3; exact h3; rw [runF_some h1 h2 h3] at hm; cases hm)
    clear hz0 hm
    go_wp2_with fail
    refine (RunEngine_z v Ae ce _ cs z false _ rfl LE.out.sg Hsh.out Hz.out).mono ?_
    rintro e w2 ⟨B2, d2, rfl, own2, b2⟩
    clear e01 e02
    have E0 := hd (E0.out.below b2)
    have LE := hd (LE.out.below b2)
    have k2 := k1.trans (b2.mono k1.size)
    have LA := hd own2
    clear own2
    clear b2
    obtain ⟨e01, e02, -⟩ := E0.out
    go_wp2_with fail
    refine (sRunEngine_z v Ae ce _ cs z false _ rfl LE.out.sg Hsh.out Hz.out).mono ?_
    rintro e w3 ⟨B3, d3, rfl, own3, b3⟩
    clear e01 e02
    have E0 := hd (E0.out.below b3)
    have LE := hd (LE.out.below b3)
    have LA := hd (LA.out.below b3)
    have k3 := k2.trans (b3.mono k2.size)
    have LB := hd own3
    clear own3
    clear b3
    obtain ⟨e01, e02, -⟩ := E0.out
    go_wp2_with fail
    refine (deInts_v _ _ B2 B3 d2 d3 z _ rfl rfl LA.out.sg LB.out.sg).mono ?_
    rintro e w4 ⟨rfl, b4⟩
    clear e01 e02
    have E0 := hd (E0.out.below b4)
    have LE := hd (LE.out.below b4)
    have LA := hd (LA.out.below b4)
    have LB := hd (LB.out.below b4)
    have k4 := k3.trans (b4.mono k3.size)
    clear b4
    obtain ⟨e01, e02, -⟩ := E0.out
    cases hev : engV cs
    · have Hev := hd hev
      clear hev
      go_wp2_with fail
      refine (EngineValid_b _ Ae ce cs false _ rfl LE.out.sg Hsh.out Hev.out).mono ?_
      rintro e w5 ⟨rfl, b5⟩
      clear e01 e02
      have E0 := hd (E0.out.below b5)
      have LE := hd (LE.out.below b5)
      have LA := hd (LA.out.below b5)
      have LB := hd (LB.out.below b5)
      have k5 := k4.trans (b5.mono k4.size)
      clear b5
      obtain ⟨e01, e02, -⟩ := E0.out
      go_wp2_with fail
      refine (deInts_v _ _ B2 B3 d2 d3 z _ rfl rfl LA.out.sg LB.out.sg).mono ?_
      rintro e w6 ⟨rfl, b6⟩
      clear e01 e02
      have E0 := hd (E0.out.below b6)
      have LE := hd (LE.out.below b6)
      have LA := hd (LA.out.below b6)
      have LB := hd (LB.out.below b6)
      have k6 := k5.trans (b6.mono k5.size)
      clear b6
      obtain ⟨e01, e02, -⟩ := E0.out
      go_wp2_with fail
      refine (EngineValid_b _ Ae ce cs false _ rfl LE.out.sg Hsh.out Hev.out).mono ?_
      rintro e w7 ⟨rfl, b7⟩
      clear e01 e02
      have E0 := hd (E0.out.below b7)
      have LE := hd (LE.out.below b7)
      have LA := hd (LA.out.below b7)
      have LB := hd (LB.out.below b7)
      have k7 := k6.trans (b7.mono k6.size)
      clear b7
      obtain ⟨e01, e02, -⟩ := E0.out
      go_wp2
      go_ret
      first | exact ⟨rfl, k7⟩ | exact ⟨ret_bool (by simp [h1]), k7⟩
    · have Hev := hd hev
      clear hev
      by_cases h0 : 0 ≤ v
      · have h1 : ¬ v ≤ 60 := by have := Hm.out Hev.out h0; omega
        go_wp2_with fail
        refine (EngineValid_b _ Ae ce cs true _ rfl LE.out.sg Hsh.out Hev.out).mono ?_
        rintro e w5 ⟨rfl, b5⟩
        clear e01 e02
        have E0 := hd (E0.out.below b5)
        have LE := hd (LE.out.below b5)
        have LA := hd (LA.out.below b5)
        have LB := hd (LB.out.below b5)
        have k5 := k4.trans (b5.mono k4.size)
        clear b5
        obtain ⟨e01, e02, -⟩ := E0.out
        go_wp2_with fail
        refine (deInts_v _ _ B2 B3 d2 d3 z _ rfl rfl LA.out.sg LB.out.sg).mono ?_
        rintro e w6 ⟨rfl, b6⟩
        clear e01 e02
        have E0 := hd (E0.out.below b6)
        have LE := hd (LE.out.below b6)
        have LA := hd (LA.out.below b6)
        have LB := hd (LB.out.below b6)
        have k6 := k5.trans (b6.mono k5.size)
        clear b6
        obtain ⟨e01, e02, -⟩ := E0.out
        go_wp2_with fail
        refine (EngineValid_b _ Ae ce cs true _ rfl LE.out.sg Hsh.out Hev.out).mono ?_
        rintro e w7 ⟨rfl, b7⟩
        clear e01 e02
        have E0 := hd (E0.out.below b7)
        have LE := hd (LE.out.below b7)
        have LA := hd (LA.out.below b7)
        have LB := hd (LB.out.below b7)
        have k7 := k6.trans (b7.mono k6.size)
        clear b7
        obtain ⟨e01, e02, -⟩ := E0.out
        go_wp2
        go_ret
        first | exact ⟨rfl, k7⟩ | exact ⟨ret_bool (by simp [h1]), k7⟩
      · have h1 := h0
        go_wp2_with fail
        refine (EngineValid_b _ Ae ce cs true _ rfl LE.out.sg Hsh.out Hev.out).mono ?_
        rintro e w5 ⟨rfl, b5⟩
        clear e01 e02
        have E0 := hd (E0.out.below b5)
        have LE := hd (LE.out.below b5)
        have LA := hd (LA.out.below b5)
        have LB := hd (LB.out.below b5)
        have k5 := k4.trans (b5.mono k4.size)
        clear b5
        obtain ⟨e01, e02, -⟩ := E0.out
        go_wp2_with fail
        refine (deInts_v _ _ B2 B3 d2 d3 z _ rfl rfl LA.out.sg LB.out.sg).mono ?_
        rintro e w6 ⟨rfl, b6⟩
        clear e01 e02
        have E0 := hd (E0.out.below b6)
        have LE := hd (LE.out.below b6)
        have LA := hd (LA.out.below b6)
        have LB := hd (LB.out.below b6)
        have k6 := k5.trans (b6.mono k5.size)
        clear b6
        obtain ⟨e01, e02, -⟩ := E0.out
        go_wp2_with fail
        refine (EngineValid_b _ Ae ce cs true _ rfl LE.out.sg Hsh.out Hev.out).mono ?_
        rintro e w7 ⟨rfl, b7⟩
        clear e01 e02
        have E0 := hd (E0.out.below b7)
        have LE := hd (LE.out.below b7)
        have LA := hd (LA.out.below b7)
        have LB := hd (LB.out.below b7)
        have k7 := k6.trans (b7.mono k6.size)
        clear b7
        obtain ⟨e01, e02, -⟩ := E0.out
        go_wp2
        go_ret
        first | exact ⟨rfl, k7⟩ | exact ⟨ret_bool (by simp [h1]), k7⟩
  | some z =>
    have Hz : Hid ((runF (manyV · 1) v cs).getD [] = z ∧ (runF (manyV · 1) v cs).isSome = true) := hd (by rw [hm]; exact ⟨rfl, rfl⟩)
    obtain ⟨hev, hv0, hv60, hzt⟩ := run_vals hm
    have Hev := hd hev
    obtain ⟨hu, hru, hvu⟩ := run_skew hm
    obtain ⟨u, hue⟩ : ∃ u, u = eng (hsz cs) (skewV (cvs cs)) := ⟨_, rfl⟩
    rw [← hue] at hu hru hvu
    have Hu : Hid ((turnF skewV cs).getD [] = u) := hd (by rw [hu]; rfl)
    have Hr : Hid ((runF halvesV v u).getD [] = z ∧ (runF halvesV v u).isSome = true) := hd (by rw [hru]; exact ⟨rfl, rfl⟩)
    have Hshu := hd (eng_short' hvu)
    have Hm := hd hm
    have Hzl : Hid ((z.length : Int) = v) := hd (by rw [hzt, tab_length]; omega)
    have hz60 : z.length ≤ 60 := by have := Hzl.out; omega
    clear hm hu hru hvu hue hev hzt
    go_wp2_with fail
    refine (RunEngine_z v Ae ce _ cs z true _ rfl LE.out.sg Hsh.out Hz.out).mono ?_
    rintro e w2 ⟨B2, d2, rfl, own2, b2⟩
    clear e01 e02
    have E0 := hd (E0.out.below b2)
    have LE := hd (LE.out.below b2)
    have k2 := k1.trans (b2.mono k1.size)
    have LA := hd own2
    clear own2
    clear b2
    obtain ⟨e01, e02, -⟩ := E0.out
    go_wp2_with fail
    refine (sRunEngine_z v Ae ce _ cs z true _ rfl LE.out.sg Hsh.out Hz.out).mono ?_
    rintro e w3 ⟨B3, d3, rfl, own3, b3⟩
    clear e01 e02
    have E0 := hd (E0.out.below b3)
    have LE := hd (LE.out.below b3)
    have LA := hd (LA.out.below b3)
    have k3 := k2.trans (b3.mono k2.size)
    have LB := hd own3
    clear own3
    clear b3
    obtain ⟨e01, e02, -⟩ := E0.out
    go_wp2_with fail
    refine (deInts_v _ _ B2 B3 d2 d3 z _ rfl rfl LA.out.sg LB.out.sg).mono ?_
    rintro e w4 ⟨rfl, b4⟩
    clear e01 e02
    have E0 := hd (E0.out.below b4)
    have LE := hd (LE.out.below b4)
    have LA := hd (LA.out.below b4)
    have LB := hd (LB.out.below b4)
    have k4 := k3.trans (b4.mono k3.size)
    clear b4
    obtain ⟨e01, e02, -⟩ := E0.out
    go_wp2_with fail
    refine (EngineValid_b _ Ae ce cs true _ rfl LE.out.sg Hsh.out Hev.out).mono ?_
    rintro e w5 ⟨rfl, b5⟩
    clear e01 e02
    have E0 := hd (E0.out.below b5)
    have LE := hd (LE.out.below b5)
    have LA := hd (LA.out.below b5)
    have LB := hd (LB.out.below b5)
    have k5 := k4.trans (b5.mono k4.size)
    clear b5
    obtain ⟨e01, e02, -⟩ := E0.out
    go_wp2_with fail
    refine (deSkewed_r Ae ce _ cs u _ rfl LE.out.sg Hsh.out Hu.out).mono ?_
    rintro e w6 ⟨B6, d6, rfl, own6, b6⟩
    clear e01 e02
    have E0 := hd (E0.out.below b6)
    have LE := hd (LE.out.below b6)
    have LA := hd (LA.out.below b6)
    have LB := hd (LB.out.below b6)
    have k6 := k5.trans (b6.mono k5.size)
    have LU := hd own6
    clear own6
    clear b6
    obtain ⟨e01, e02, -⟩ := E0.out
    go_wp2_with fail
    refine (RunHalves_z v B6 d6 _ u z true _ rfl LU.out.sg Hshu.out Hr.out).mono ?_
    rintro e w7 ⟨B7, d7, rfl, own7, b7⟩
    clear e01 e02
    have E0 := hd (E0.out.below b7)
    have LE := hd (LE.out.below b7)
    have LA := hd (LA.out.below b7)
    have LB := hd (LB.out.below b7)
    have LU := hd (LU.out.below b7)
    have k7 := k6.trans (b7.mono k6.size)
    have LC := hd own7
    clear own7
    clear b7
    obtain ⟨e01, e02, -⟩ := E0.out
    have Bk := hd k7
    obtain ⟨wk, hwk⟩ : ∃ x, x = w7 := ⟨_, rfl⟩
    have E0v := hd E0.out
    rw [← hwk] at E0v
    have LEv := hd LE.out
    rw [← hwk] at LEv
    have LAv := hd LA.out
    rw [← hwk] at LAv
    have LCv := hd LC.out
    rw [← hwk] at LCv
    have Bkv := hd Bk.out
    rw [← hwk] at Bkv
    go_wp2
    go_loopw [11] (fun i wr => ∃ k : Nat, k ≤ z.length ∧ i = .int .i64 k ∧ Below wk.heap.size wk wr) (fun i _ => z.length - (intOf i).toNat)
    case atStart => exact ⟨0, by omega, rfl, by rw [hwk]; exact Below.refl _ _⟩
    case round =>
      obtain ⟨k, hk, rfl, bw⟩ := hrel
      clear e01 e02
      clear hwk
      have E0 := hd (E0v.out.below bw)
      have LE := hd (LEv.out.below bw)
      have LA := hd (LAv.out.below bw)
      have LC := hd (LCv.out.below bw)
      have Bk := hd (Bkv.out.trans (bw.mono Bkv.out.size))
      have Bw := hd bw
      clear bw
      obtain ⟨e01, e02, -⟩ := E0.out
      by_cases hlt : k < z.length
      · have e1 : (k : Int) < z.length := by omega
        have e2 : (0 : Int) ≤ k := by omega
        obtain ⟨x, hx⟩ : ∃ x, z[k]? = some x := ⟨z[k], List.getElem?_eq_getElem hlt⟩
        obtain ⟨hmk, hrk, hsk⟩ := run_shows Hm.out hx
        obtain ⟨zk, hzk⟩ : ∃ zk, zk = eng (hsz cs) (manyV (cvs cs) k) := ⟨_, rfl⟩
        rw [← hzk] at hmk hrk hsk
        have Hmk := hd hmk
        have Hrk := hd hrk
        have Hsk := hd hsk
        have Hx := hd hx
        obtain ⟨bA, oA, hbA, -⟩ := LA.out.sg.nonempty (by omega)
        have E0u := hd E0.out
        have LEu := hd LE.out
        have LAu := hd LA.out
        have Bku := hd Bk.out
        have Bwu := hd Bw.out
        clear hmk hrk hsk hzk hx
        clear e01 e02
        subst hbA
        have E0 := hd E0u.out
        have LE := hd LEu.out
        have LA := hd LAu.out
        have Bk := hd Bku.out
        have Bw := hd Bwu.out
        clear E0u LEu LAu Bku Bwu
        obtain ⟨e01, e02, -⟩ := E0.out
        go_wp2_with fail
        refine (deTurned_z Ae ce _ cs zk k _ _ (by first | rfl | omega) rfl LE.out.sg Hsh.out Hmk.out).mono ?_
        rintro e w8 ⟨B8, d8, rfl, own8, b8⟩
        clear e01 e02
        have E0 := hd (E0.out.below b8)
        have LE := hd (LE.out.below b8)
        have LA := hd (LA.out.below b8)
        have Bw := hd (Bw.out.trans (b8.mono Bw.out.size))
        have LT := hd own8
        clear own8
        clear b8
        obtain ⟨e01, e02, -⟩ := E0.out
        go_wp2_with fail
        refine (ResultOf_r _ B8 d8 zk x true _ rfl LT.out.sg Hsk.out Hrk.out).mono ?_
        rintro e w9 ⟨rfl, b9⟩
        clear e01 e02
        have E0 := hd (E0.out.below b9)
        have LE := hd (LE.out.below b9)
        have LA := hd (LA.out.below b9)
        have LT := hd (LT.out.below b9)
        have Bw := hd (Bw.out.trans (b9.mono Bw.out.size))
        clear b9
        obtain ⟨e01, e02, -⟩ := E0.out
        have hcx := (LA.out.sg.cellK Hx.out).1
        go_wp2
        go_roundw
        case rel => exact ⟨k + 1, by omega, by go_num, Bw.out⟩
        case measure => simp [intOf] <;> omega
      · have hke : ¬ (k : Int) < z.length := by omega
        have hzl : ((z.length : Int) == v) = true := by simp [Hzl.out]
        go_wp2_with fail
        refine (deInts_v _ _ B7 B2 d7 d2 z _ rfl rfl LC.out.sg LA.out.sg).mono ?_
        rintro e w30 ⟨rfl, b30⟩
        have Bk := hd (Bk.out.trans (b30.mono Bk.out.size))
        clear b30
        go_wp2
        go_ret
        exact ⟨rfl, Bk.out⟩

end Go.Proofs.Ytkmblobfamhoiaa
