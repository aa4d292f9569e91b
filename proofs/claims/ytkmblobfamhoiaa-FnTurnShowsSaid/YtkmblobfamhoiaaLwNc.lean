/- The walk of the law TurnShows: the law returns true, whatever the input. -/
import Derived.Test.YtkmblobfamhoiaaLwP
import Derived.Test.YtkmblobfamhoiaaGrI
import Derived.Deep.RegionHeld3
namespace Go.Proofs.Ytkmblobfamhoiaa
open Go.RowKit
set_option maxRecDepth 4000

/-- The loop's variable, the engine after so many turns, the polynomial; nothing is changed below. -/
def ShowR (w : World) (gx n W : Nat) (q : List Int) (Ap : Option Addr) (p : List Int) (i : Value) (wr : World) : Prop :=
  ∃ (k : Nat) (A : Option Addr) (c : Nat), k ≤ 12 ∧ i = .int .i64 k ∧ Cl wr gx (.slice A n c) ∧ SS wr A (eng W (manyV q k)) ∧ Off A gx ∧ SRB gx wr Ap (p.map (Value.int .i64)) ∧ Below w.heap.size w wr

theorem OwnG.off_hi {α : Type} {f : α → Value} {E : TypeId} {B : Nat} {w : World} {A : Option Addr} {c : Nat} {xs : List α} (h : OwnG f E B w A c xs) {g : Nat} (hg : w.heap.size ≤ g) : Off A g := by
  intro a ha
  subst ha
  have := (h.2.lt a.block rfl).2
  omega

theorem TurnWhole_n (W : Nat) (vs : List Int) (A : Option Addr) (c n : Nat) (w : World) (hn : vs.length = n) (h : SS w A (eng W vs)) (h1 : 1 ≤ W) (h12 : W ≤ 12) (hn1 : 1 ≤ vs.length) (hn7 : vs.length ≤ 7) :
    Calls Try.prog 62 #[.agg #[.slice A n c]] w fun e w' => ∃ A' c', e = .returned (.tuple #[.agg #[.slice A' n c'], .bool true]) ∧ OwnS 9 w.heap.size w' A' c' (eng W (manyV vs 1)) ∧ Below w.heap.size w w' := by
  subst hn
  have h2 := TurnWhole_any A c (eng W vs) w h (short_eng h12 vs)
  rw [eng_length] at h2
  refine h2.mono ?_
  rintro e w' ⟨A', c', rfl, ho, hb⟩
  rw [turn_eng 1 h1 h12 hn1 hn7] at ho ⊢
  exact ⟨A', c', by simp [eng_length, manyV_length], ho, hb⟩

theorem val_zero_many {q : List Int} {k : Int} (h : 1 ≤ q.length) : (manyV q k).getD 0 0 = val q k := by
  rw [getD_at (manyV_at k (show 0 < q.length by omega)), List.drop_zero]

theorem TurnShows_big (A : Option Addr) (c n : Nat) (w : World) (h1 : 1048576 < n) (h2 : n ≤ 9223372036854775807) :
    Calls Try.prog 12 #[.slice A n c] w fun e w' => e = .returned (.bool true) ∧ Below w.heap.size w w' := by
  have hbig' : (1048576 : Int) < n := by omega
  go_enter Try.func12, Try.ntmps12
  go_wp2
  go_ret
  exact ⟨rfl, Below.refl _ _⟩

set_option maxHeartbeats 8000000 in
theorem TurnShows_walk (A : Option Addr) (c : Nat) (zs : List Int) (w : World) (h : SR w A (zs.map (Value.int .u8))) (hbig : zs.length ≤ 1048576) (hcap : zs.length ≤ c) (hx : ∀ x ∈ zs, 0 ≤ x ∧ x ≤ 255) :
    Calls Try.prog 12 #[.slice A zs.length c] w fun e w' => e = .returned (.bool true) ∧ Below w.heap.size w w' := by
  have H := hd h
  have Hx := hd hx
  have hbig' : ¬ (1048576 : Int) < zs.length := by omega
  clear h hx
  go_enter Try.func12, Try.ntmps12
  go_wp2_with fail
  refine (DrawSetUp_any A c zs _ H.out hcap Hx.out).mono ?_
  rintro e w1 ⟨Ap, cp, p, n, N, rfl, hp8, own1, hcp, k1, hn64, hN64⟩
  have LP : Hid (OwnG (Value.int .i64) 3 w.heap.size w1 Ap cp p) := hd own1
  clear own1
  cases hm : setF p n N with
  | none =>
    obtain ⟨z, hz0⟩ : ∃ z : List ByteArray, z = [] := ⟨_, rfl⟩
    have Hz : Hid ((setF p n N).getD [] = z ∧ (setF p n N).isSome = false) := hd (by rw [hm, hz0]; exact ⟨rfl, rfl⟩)
    clear hz0 hm
    go_wp2_with fail
    refine (SetUp_z n N Ap cp _ p z false _ rfl LP.out.sg hcp Hz.out).mono ?_
    rintro e w2 ⟨B2, d2, rfl, own2, b2⟩
    have LP := hd (LP.out.below b2)
    have k2 := k1.trans (b2.mono k1.size)
    have LX := hd own2
    clear own2
    clear b2
    have X0 := hd (Cl.new w2 (.slice B2 z.length d2) 36)
    have LP := hd (LP.out.alloc (.cells #[.slice B2 z.length d2] 36))
    have LX := hd (LX.out.alloc (.cells #[.slice B2 z.length d2] 36))
    have k2 := k2.alloc k2.size (.cells #[.slice B2 z.length d2] 36)
    obtain ⟨x01, x02, -⟩ := X0.out
    go_wp2_with fail
    refine (sSetUp_z n N Ap cp _ p z false _ rfl LP.out.sg hcp Hz.out).mono ?_
    rintro e w3 ⟨B3, d3, rfl, own3, b3⟩
    clear x01 x02
    have X0 := hd (X0.out.below b3)
    have LP := hd (LP.out.below b3)
    have LX := hd (LX.out.below b3)
    have k3 := k2.trans (b3.mono k2.size)
    have LW := hd own3
    clear own3
    clear b3
    obtain ⟨x01, x02, -⟩ := X0.out
    clear x01 x02
    have W0 := hd (Cl.new w3 (.slice B3 z.length d3) 36)
    have X0 := hd (X0.out.alloc (.cells #[.slice B3 z.length d3] 36))
    have LP := hd (LP.out.alloc (.cells #[.slice B3 z.length d3] 36))
    have LX := hd (LX.out.alloc (.cells #[.slice B3 z.length d3] 36))
    have LW := hd (LW.out.alloc (.cells #[.slice B3 z.length d3] 36))
    have k3 := k3.alloc k3.size (.cells #[.slice B3 z.length d3] 36)
    obtain ⟨x01, x02, -⟩ := X0.out
    obtain ⟨w01, w02, -⟩ := W0.out
    go_wp2_with fail
    refine (deSame_same _ B2 B3 d2 d3 z _ rfl LX.out.sg LW.out.sg).mono ?_
    rintro e w4 ⟨rfl, b4⟩
    clear x01 x02 w01 w02
    have X0 := hd (X0.out.below b4)
    have W0 := hd (W0.out.below b4)
    have LP := hd (LP.out.below b4)
    have LX := hd (LX.out.below b4)
    have LW := hd (LW.out.below b4)
    have k4 := k3.trans (b4.mono k3.size)
    clear b4
    obtain ⟨x01, x02, -⟩ := X0.out
    obtain ⟨w01, w02, -⟩ := W0.out
    go_wp2_with fail
    refine (deSame_same _ B2 B3 d2 d3 z _ rfl LX.out.sg LW.out.sg).mono ?_
    rintro e w5 ⟨rfl, b5⟩
    clear x01 x02 w01 w02
    have X0 := hd (X0.out.below b5)
    have W0 := hd (W0.out.below b5)
    have LP := hd (LP.out.below b5)
    have LX := hd (LX.out.below b5)
    have LW := hd (LW.out.below b5)
    have k5 := k4.trans (b5.mono k4.size)
    clear b5
    obtain ⟨x01, x02, -⟩ := X0.out
    obtain ⟨w01, w02, -⟩ := W0.out
    go_wp2
    go_ret
    exact ⟨rfl, k5⟩
  | some z =>
    have Hz : Hid ((setF p n N).getD [] = z ∧ (setF p n N).isSome = true) := hd (by rw [hm]; exact ⟨rfl, rfl⟩)
    obtain ⟨q, W, hq, hNW, hW1, hW12, hzq, hvz, ⟨hq1, hq7⟩, hrd, hrs⟩ := set_read hm
    obtain ⟨hvp, hvq, ⟨hn1, hn2⟩, hqe, hql, hqv⟩ := shiftP_some hq
    subst hNW
    have Hvz := hd hvz
    have Hsh := hd (eng_short' hvz)
    have Hzl : Hid (q.length = z.length) := hd (by rw [hzq, eng_length])
    have Hzq := hd hzq
    have Hvp := hd hvp
    have Hqv := hd hqv
    clear hq hzq hvz hrd hrs hvp hvq hqe hql hqv hm
    have e12 : IntKind.i64.wrap (n + 12) = n + 12 := IntWalk.i64_in _ (by omega)
    by_cases hbig2 : 200 < n + 12
    · have hbb := hbig2
      go_wp2_with fail
      refine (SetUp_z n W Ap cp _ p z true _ rfl LP.out.sg hcp Hz.out).mono ?_
      rintro e w2 ⟨B2, d2, rfl, own2, b2⟩
      have LP := hd (LP.out.below b2)
      have k2 := k1.trans (b2.mono k1.size)
      have LX := hd own2
      clear own2
      clear b2
      have X0 := hd (Cl.new w2 (.slice B2 z.length d2) 36)
      have LP := hd (LP.out.alloc (.cells #[.slice B2 z.length d2] 36))
      have LX := hd (LX.out.alloc (.cells #[.slice B2 z.length d2] 36))
      have k2 := k2.alloc k2.size (.cells #[.slice B2 z.length d2] 36)
      obtain ⟨x01, x02, -⟩ := X0.out
      go_wp2_with fail
      refine (sSetUp_z n W Ap cp _ p z true _ rfl LP.out.sg hcp Hz.out).mono ?_
      rintro e w3 ⟨B3, d3, rfl, own3, b3⟩
      clear x01 x02
      have X0 := hd (X0.out.below b3)
      have LP := hd (LP.out.below b3)
      have LX := hd (LX.out.below b3)
      have k3 := k2.trans (b3.mono k2.size)
      have LW := hd own3
      clear own3
      clear b3
      obtain ⟨x01, x02, -⟩ := X0.out
      clear x01 x02
      have W0 := hd (Cl.new w3 (.slice B3 z.length d3) 36)
      have X0 := hd (X0.out.alloc (.cells #[.slice B3 z.length d3] 36))
      have LP := hd (LP.out.alloc (.cells #[.slice B3 z.length d3] 36))
      have LX := hd (LX.out.alloc (.cells #[.slice B3 z.length d3] 36))
      have LW := hd (LW.out.alloc (.cells #[.slice B3 z.length d3] 36))
      have k3 := k3.alloc k3.size (.cells #[.slice B3 z.length d3] 36)
      obtain ⟨x01, x02, -⟩ := X0.out
      obtain ⟨w01, w02, -⟩ := W0.out
      go_wp2_with fail
      refine (deSame_same _ B2 B3 d2 d3 z _ rfl LX.out.sg LW.out.sg).mono ?_
      rintro e w4 ⟨rfl, b4⟩
      clear x01 x02 w01 w02
      have X0 := hd (X0.out.below b4)
      have W0 := hd (W0.out.below b4)
      have LP := hd (LP.out.below b4)
      have LX := hd (LX.out.below b4)
      have LW := hd (LW.out.below b4)
      have k4 := k3.trans (b4.mono k3.size)
      clear b4
      obtain ⟨x01, x02, -⟩ := X0.out
      obtain ⟨w01, w02, -⟩ := W0.out
      go_wp2_with fail
      refine (deSame_same _ B2 B3 d2 d3 z _ rfl LX.out.sg LW.out.sg).mono ?_
      rintro e w5 ⟨rfl, b5⟩
      clear x01 x02 w01 w02
      have X0 := hd (X0.out.below b5)
      have W0 := hd (W0.out.below b5)
      have LP := hd (LP.out.below b5)
      have LX := hd (LX.out.below b5)
      have LW := hd (LW.out.below b5)
      have k5 := k4.trans (b5.mono k4.size)
      clear b5
      obtain ⟨x01, x02, -⟩ := X0.out
      obtain ⟨w01, w02, -⟩ := W0.out
      go_wp2
      go_ret
      exact ⟨rfl, k5⟩
    · have hbb := hbig2
      go_wp2_with fail
      refine (SetUp_z n W Ap cp _ p z true _ rfl LP.out.sg hcp Hz.out).mono ?_
      rintro e w2 ⟨B2, d2, rfl, own2, b2⟩
      have LP := hd (LP.out.below b2)
      have k2 := k1.trans (b2.mono k1.size)
      have LX := hd own2
      clear own2
      clear b2
      have SP := hd (SR.srb LP.out.sg)
      have Ofx := hd (LX.out.off_hi (Nat.le_refl _))
      have hgx : w.heap.size ≤ w2.heap.size := k2.size
      have SP := hd (SP.out.below ((Below.refl w2.heap.size w2).alloc (Nat.le_refl _) (.cells #[.slice B2 z.length d2] 36)))
      have X0 := hd (Cl.new w2 (.slice B2 z.length d2) 36)
      have LP := hd (LP.out.alloc (.cells #[.slice B2 z.length d2] 36))
      have LX := hd (LX.out.alloc (.cells #[.slice B2 z.length d2] 36))
      have k2 := k2.alloc k2.size (.cells #[.slice B2 z.length d2] 36)
      obtain ⟨x01, x02, -⟩ := X0.out
      go_wp2_with fail
      refine (sSetUp_z n W Ap cp _ p z true _ rfl LP.out.sg hcp Hz.out).mono ?_
      rintro e w3 ⟨B3, d3, rfl, own3, b3⟩
      have SP := hd (SP.out.below (b3.mono (Nat.le_of_lt X0.out.2.2)))
      clear x01 x02
      have X0 := hd (X0.out.below b3)
      have LP := hd (LP.out.below b3)
      have LX := hd (LX.out.below b3)
      have k3 := k2.trans (b3.mono k2.size)
      have LW := hd own3
      clear own3
      clear b3
      obtain ⟨x01, x02, -⟩ := X0.out
      have SP := hd (SP.out.below ((Below.refl w2.heap.size w3).alloc (Nat.le_of_lt X0.out.2.2) (.cells #[.slice B3 z.length d3] 36)))
      clear x01 x02
      have W0 := hd (Cl.new w3 (.slice B3 z.length d3) 36)
      have X0 := hd (X0.out.alloc (.cells #[.slice B3 z.length d3] 36))
      have LP := hd (LP.out.alloc (.cells #[.slice B3 z.length d3] 36))
      have LX := hd (LX.out.alloc (.cells #[.slice B3 z.length d3] 36))
      have LW := hd (LW.out.alloc (.cells #[.slice B3 z.length d3] 36))
      have k3 := k3.alloc k3.size (.cells #[.slice B3 z.length d3] 36)
      obtain ⟨x01, x02, -⟩ := X0.out
      obtain ⟨w01, w02, -⟩ := W0.out
      go_wp2_with fail
      refine (deSame_same _ B2 B3 d2 d3 z _ rfl LX.out.sg LW.out.sg).mono ?_
      rintro e w4 ⟨rfl, b4⟩
      have SP := hd (SP.out.below (b4.mono (Nat.le_of_lt X0.out.2.2)))
      clear x01 x02 w01 w02
      have X0 := hd (X0.out.below b4)
      have W0 := hd (W0.out.below b4)
      have LP := hd (LP.out.below b4)
      have LX := hd (LX.out.below b4)
      have LW := hd (LW.out.below b4)
      have k4 := k3.trans (b4.mono k3.size)
      clear b4
      obtain ⟨x01, x02, -⟩ := X0.out
      obtain ⟨w01, w02, -⟩ := W0.out
      have Bk := hd k4
      go_wp2
      go_loopw [10] (fun i wr => ShowR w w2.heap.size z.length W q Ap p i wr) (fun i _ => 12 - (intOf i).toNat)
      case atStart => exact ⟨0, B2, d2, by omega, rfl, X0.out, by rw [show ((0 : Nat) : Int) = 0 from rfl, manyV_zero, ← Hzq.out]; exact LX.out.sg, Ofx.out, SP.out, Bk.out⟩
      case round =>
        obtain ⟨k, A2, c2, hk, rfl, cl, ss, off, sp, bw⟩ := hrel
        clear LX LW LP W0 X0 SP x01 x02 w01 w02
        have X0 := hd cl
        have SX := hd ss
        have Ofx := hd off
        have SP := hd sp
        have Bw := hd bw
        clear cl ss off sp bw
        obtain ⟨x01, x02, -⟩ := X0.out
        by_cases hlt : k < 12
        · have e1 : (k : Int) < 12 := by omega
          have e2 : IntKind.i64.wrap (n + (k : Int)) = n + k := IntWalk.i64_in _ (by omega)
          obtain ⟨v, Hv⟩ : ∃ v, Hid (val p (n + k) = v) := ⟨_, hd rfl⟩
          have Hev : Hid (evl p (n + k) = v) := hd (by rw [evl_in Hvp.out (by omega) (by omega)]; exact Hv.out)
          have hml : (manyV q k).length = q.length := manyV_length _ _
          have Hml : Hid ((manyV q k).length = z.length) := hd (by rw [hml]; exact Hzl.out)
          have Hm1 : Hid (1 ≤ (manyV q k).length ∧ (manyV q k).length ≤ 7) := hd (by rw [hml]; exact ⟨hq1, hq7⟩)
          have Hrs : Hid (resF (eng W (manyV q k)) = (sgn W v, true)) := hd (by rw [res_eng hW1 hW12 Hm1.out.1 Hm1.out.2, val_zero_many hq1, Hqv.out, Int.add_comm, Hv.out])
          have Hel : Hid ((eng W (manyV q k)).length = z.length) := hd (by rw [eng_length]; exact Hml.out)
          obtain ⟨u, Hu⟩ : ∃ u, Hid (wfor v = u) := ⟨_, hd rfl⟩
          clear hml
          go_wp2_with fail
          refine (deAt_v _ Ap cp _ p (n + k) v _ (by first | exact e2 | rfl) rfl SP.out.sr Hev.out).mono ?_
          rintro e w5 ⟨rfl, b5⟩
          clear x01 x02
          have SP := hd (SP.out.below (b5.mono (Nat.le_of_lt X0.out.2.2)))
          have X0 := hd (X0.out.below b5)
          have SX := hd (SX.out.below b5)
          have Bw := hd (Bw.out.trans (b5.mono Bw.out.size))
          clear b5
          obtain ⟨x01, x02, -⟩ := X0.out
          go_wp2_with fail
          refine (ResultOf_r _ A2 c2 (eng W (manyV q k)) (sgn W v) true _ Hel.out SX.out (short_eng hW12 _) Hrs.out).mono ?_
          rintro e w6 ⟨rfl, b6⟩
          clear x01 x02
          have SP := hd (SP.out.below (b6.mono (Nat.le_of_lt X0.out.2.2)))
          have X0 := hd (X0.out.below b6)
          have SX := hd (SX.out.below b6)
          have Bw := hd (Bw.out.trans (b6.mono Bw.out.size))
          clear b6
          obtain ⟨x01, x02, -⟩ := X0.out
          go_wp2_with fail
          refine (WidthFor_r v u _ Hu.out).mono ?_
          rintro e w7 ⟨rfl, b7⟩
          clear x01 x02
          have SP := hd (SP.out.below (b7.mono (Nat.le_of_lt X0.out.2.2)))
          have X0 := hd (X0.out.below b7)
          have SX := hd (SX.out.below b7)
          have Bw := hd (Bw.out.trans (b7.mono Bw.out.size))
          clear b7
          obtain ⟨x01, x02, -⟩ := X0.out
          by_cases hf : fitsB v W = true
          · have hs : (sgn W v == v) = true := by simp [(sgn_eq_iff hW1).2 hf]
            have h3 := (wfor_iff hW1 hW12).2 hf
            rw [Hu.out] at h3
            have h4 : (0 : Int) < u := by omega
            have h5 : (u : Int) ≤ W := by omega
            clear h3 hf
            go_wp2_with fail
            refine (TurnWhole_n W (manyV q k) A2 c2 _ _ Hml.out SX.out hW1 hW12 Hm1.out.1 Hm1.out.2).mono ?_
            rintro e w8 ⟨A9, c9, rfl, own9, b9⟩
            clear x01 x02
            have SP := hd (SP.out.below (b9.mono (Nat.le_of_lt X0.out.2.2)))
            have hlt9 := X0.out.2.2
            have X0 := hd (X0.out.below b9)
            have Bw := hd (Bw.out.trans (b9.mono Bw.out.size))
            have Ofn := hd (own9.off (g := w2.heap.size) hlt9)
            have SN := hd (own9.keep_lo (grown_set w8 ⟨w2.heap.size, 0, none⟩ (.slice A9 z.length c9)) (fun r hr => by simp at hr; omega)).sg
            have SPn := hd (SP.out.below ((Below.refl w2.heap.size w8).setCell (p := ⟨w2.heap.size, 0, none⟩) (Nat.le_refl _) (.slice A9 z.length c9)))
            have Xn := hd (cl_put' X0.out (.slice A9 z.length c9))
            have Bn := hd (Bw.out.setCell (p := ⟨w2.heap.size, 0, none⟩) hgx (.slice A9 z.length c9))
            have Hmn : Hid (manyV (manyV q k) 1 = manyV q ((k + 1 : Nat) : Int)) := hd (by rw [manyV_manyV]; congr 1; omega)
            rw [Hmn.out] at SN
            clear own9 b9 hlt9
            obtain ⟨x01, x02, -⟩ := X0.out
            go_wp2
            go_roundw
            case rel => exact ⟨k + 1, A9, c9, by omega, by go_num, Xn.out, SN.out, Ofn.out, SPn.out, Bn.out⟩
            case measure => simp [intOf]; omega
          · have hs : (sgn W v == v) = false := by simp [mt (sgn_eq_iff hW1).1 hf]
            have h3 := mt (wfor_iff hW1 hW12).1 hf
            rw [Hu.out] at h3
            by_cases h4 : (0 : Int) < u
            · have h5 : ¬ (u : Int) ≤ W := by omega
              clear h3 hf
              go_wp2_with fail
              refine (TurnWhole_n W (manyV q k) A2 c2 _ _ Hml.out SX.out hW1 hW12 Hm1.out.1 Hm1.out.2).mono ?_
              rintro e w8 ⟨A9, c9, rfl, own9, b9⟩
              clear x01 x02
              have SP := hd (SP.out.below (b9.mono (Nat.le_of_lt X0.out.2.2)))
              have hlt9 := X0.out.2.2
              have X0 := hd (X0.out.below b9)
              have Bw := hd (Bw.out.trans (b9.mono Bw.out.size))
              have Ofn := hd (own9.off (g := w2.heap.size) hlt9)
              have SN := hd (own9.keep_lo (grown_set w8 ⟨w2.heap.size, 0, none⟩ (.slice A9 z.length c9)) (fun r hr => by simp at hr; omega)).sg
              have SPn := hd (SP.out.below ((Below.refl w2.heap.size w8).setCell (p := ⟨w2.heap.size, 0, none⟩) (Nat.le_refl _) (.slice A9 z.length c9)))
              have Xn := hd (cl_put' X0.out (.slice A9 z.length c9))
              have Bn := hd (Bw.out.setCell (p := ⟨w2.heap.size, 0, none⟩) hgx (.slice A9 z.length c9))
              have Hmn : Hid (manyV (manyV q k) 1 = manyV q ((k + 1 : Nat) : Int)) := hd (by rw [manyV_manyV]; congr 1; omega)
              rw [Hmn.out] at SN
              clear own9 b9 hlt9
              obtain ⟨x01, x02, -⟩ := X0.out
              go_wp2
              go_roundw
              case rel => exact ⟨k + 1, A9, c9, by omega, by go_num, Xn.out, SN.out, Ofn.out, SPn.out, Bn.out⟩
              case measure => simp [intOf]; omega
            · clear h3 hf
              go_wp2_with fail
              refine (TurnWhole_n W (manyV q k) A2 c2 _ _ Hml.out SX.out hW1 hW12 Hm1.out.1 Hm1.out.2).mono ?_
              rintro e w8 ⟨A9, c9, rfl, own9, b9⟩
              clear x01 x02
              have SP := hd (SP.out.below (b9.mono (Nat.le_of_lt X0.out.2.2)))
              have hlt9 := X0.out.2.2
              have X0 := hd (X0.out.below b9)
              have Bw := hd (Bw.out.trans (b9.mono Bw.out.size))
              have Ofn := hd (own9.off (g := w2.heap.size) hlt9)
              have SN := hd (own9.keep_lo (grown_set w8 ⟨w2.heap.size, 0, none⟩ (.slice A9 z.length c9)) (fun r hr => by simp at hr; omega)).sg
              have SPn := hd (SP.out.below ((Below.refl w2.heap.size w8).setCell (p := ⟨w2.heap.size, 0, none⟩) (Nat.le_refl _) (.slice A9 z.length c9)))
              have Xn := hd (cl_put' X0.out (.slice A9 z.length c9))
              have Bn := hd (Bw.out.setCell (p := ⟨w2.heap.size, 0, none⟩) hgx (.slice A9 z.length c9))
              have Hmn : Hid (manyV (manyV q k) 1 = manyV q ((k + 1 : Nat) : Int)) := hd (by rw [manyV_manyV]; congr 1; omega)
              rw [Hmn.out] at SN
              clear own9 b9 hlt9
              obtain ⟨x01, x02, -⟩ := X0.out
              go_wp2
              go_roundw
              case rel => exact ⟨k + 1, A9, c9, by omega, by go_num, Xn.out, SN.out, Ofn.out, SPn.out, Bn.out⟩
              case measure => simp [intOf]; omega
        · obtain rfl : k = 12 := by omega
          go_wp2
          go_ret
          exact ⟨rfl, Bw.out⟩

end Go.Proofs.Ytkmblobfamhoiaa
