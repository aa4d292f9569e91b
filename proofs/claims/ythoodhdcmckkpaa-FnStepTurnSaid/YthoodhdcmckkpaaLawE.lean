/- The walk of the law on steps and turns: it returns true, whatever the draw. -/
import Derived.Test.YthoodhdcmckkpaaLawC
import Derived.Test.YthoodhdcmckkpaaDrawD
import Derived.Test.YthoodhdcmckkpaaPureF
namespace Go.Proofs.Ythoodhdcmckkpaa
open Go.RowKit

theorem StepTurn_big (A : Option Addr) (c n : Nat) (w : World) (h1 : 1048576 < n) (h2 : n ≤ 9223372036854775807) :
    Calls Try.prog 14 #[.slice A n c] w fun e w' => e = .returned (.bool true) ∧ Below w.heap.size w w' := by
  have hbig' : (1048576 : Int) < n := by omega
  go_enter Try.func14, Try.ntmps14
  go_wp2
  go_ret
  exact ⟨rfl, Below.refl _ _⟩

set_option maxHeartbeats 4000000 in
theorem StepTurn_walk (A : Option Addr) (c : Nat) (zs : List Int) (w : World) (h : SR w A (zs.map (Value.int .u8))) (hbig : zs.length ≤ 1048576) (hcap : zs.length ≤ c) (hx : ∀ x ∈ zs, 0 ≤ x ∧ x ≤ 255) :
    Calls Try.prog 14 #[.slice A zs.length c] w fun e w' => e = .returned (.bool true) ∧ Below w.heap.size w w' := by
  have H := hd h
  have Hx := hd hx
  clear h hx
  go_enter Try.func14, Try.ntmps14
  go_wp2_with fail
  refine (DrawStepPoly_any A c zs _ H.out hcap Hx.out).mono ?_
  rintro e w1 ⟨A1, c1, p, m, rfl, hp8, own, hcap1, bb, hmb⟩
  have k1 := bb
  have Pp := hd own
  clear own
  obtain ⟨hmb1, hmb2⟩ := hmb
  clear bb
  go_wp2_with fail
  refine (StepPoly_any A1 c1 p m _ Pp.out.si).mono ?_
  rintro e w2 ⟨A2, c2, rfl, own, bb⟩
  have Pp := hd (Pp.out.below bb)
  have k2 := k1.trans (bb.mono k1.size)
  have Qq := hd own
  clear own
  clear bb
  go_wp2_with fail
  refine (sStepPoly_any A1 c1 p m _ Pp.out.si).mono ?_
  rintro e w3 ⟨A3, c3, rfl, own, bb⟩
  have Pp := hd (Pp.out.below bb)
  have Qq := hd (Qq.out.below bb)
  have k3 := k2.trans (bb.mono k2.size)
  have Qw := hd own
  clear own
  clear bb
  go_wp2_with fail
  refine (TurnPoly_any A1 c1 p _ Pp.out.si).mono ?_
  rintro e w4 ⟨A4, c4, rfl, own, bb⟩
  have Pp := hd (Pp.out.below bb)
  have Qq := hd (Qq.out.below bb)
  have Qw := hd (Qw.out.below bb)
  have k4 := k3.trans (bb.mono k3.size)
  have Rr := hd own
  clear own
  clear bb
  go_wp2_with fail
  refine (sTurnPoly_any A1 c1 p _ Pp.out.si).mono ?_
  rintro e w5 ⟨A5, c5, rfl, own, bb⟩
  have Pp := hd (Pp.out.below bb)
  have Qq := hd (Qq.out.below bb)
  have Qw := hd (Qw.out.below bb)
  have Rr := hd (Rr.out.below bb)
  have k5 := k4.trans (bb.mono k4.size)
  have Rw := hd own
  clear own
  clear bb
  obtain ⟨zq, oq, Hq⟩ : ∃ z o, Hid ((stepP p m).getD [] = z ∧ (stepP p m).isSome = o) := ⟨_, _, hd ⟨rfl, rfl⟩⟩
  obtain ⟨zr, or, Hr⟩ : ∃ z o, Hid ((turnP p).getD [] = z ∧ (turnP p).isSome = o) := ⟨_, _, hd ⟨rfl, rfl⟩⟩
  simp only [Hq.out.1, Hq.out.2, Hr.out.1, Hr.out.2] at Qq Qw Rr Rw ⊢
  go_wp2_with fail
  refine (deInts_any A2 A3 c2 c3 zq zq _ Qq.out.si Qw.out.si).mono ?_
  rintro e w6 ⟨rfl, bb⟩
  simp only [decide_true]
  have Pp := hd (Pp.out.below bb)
  have Qq := hd (Qq.out.below bb)
  have Qw := hd (Qw.out.below bb)
  have Rr := hd (Rr.out.below bb)
  have Rw := hd (Rw.out.below bb)
  have k6 := k5.trans (bb.mono k5.size)
  clear bb
  go_wp2_with fail
  refine (deInts_any A4 A5 c4 c5 zr zr _ Rr.out.si Rw.out.si).mono ?_
  rintro e w7 ⟨rfl, bb⟩
  simp only [decide_true]
  have Pp := hd (Pp.out.below bb)
  have Qq := hd (Qq.out.below bb)
  have Rr := hd (Rr.out.below bb)
  have Rw := hd (Rw.out.below bb)
  have k7 := k6.trans (bb.mono k6.size)
  clear bb
  cases hs : stepP p m with
  | none =>
    have ho : oq = false := by rw [← Hq.out.2, hs]; rfl
    subst ho
    have Hs := hd hs
    clear hs
    cases ht : turnP p with
    | none =>
      have hf : or = false := by rw [← Hr.out.2, ht]; rfl
      subst hf
      clear ht
      go_wp2
      go_loop [13] (fun i => ∃ n : Int, -8 ≤ n ∧ n ≤ 9 ∧ i = .int .i64 n) (fun i => (9 - intOf i).toNat)
      case atStart => exact ⟨-8, by omega, by omega, rfl⟩
      case round =>
        obtain ⟨n, hn1, hn2, rfl⟩ := hrel
        by_cases hlt : n ≤ 8
        · go_wp2
          go_round
          case rel => exact ⟨n + 1, by omega, by omega, rfl⟩
          case measure => simp [intOf]; omega
        · go_wp2
          go_ret
          exact ⟨rfl, k7⟩
    | some r =>
      have hf : or = true := by rw [← Hr.out.2, ht]; rfl
      have hz : zr = r := by rw [← Hr.out.1, ht]; rfl
      subst hf hz
      have Ht := hd ht
      clear ht
      go_wp2
      go_loop [13] (fun i => ∃ n : Int, -8 ≤ n ∧ n ≤ 9 ∧ i = .int .i64 n) (fun i => (9 - intOf i).toNat)
      case atStart => exact ⟨-8, by omega, by omega, rfl⟩
      case round =>
        obtain ⟨n, hn1, hn2, rfl⟩ := hrel
        by_cases hlt : n ≤ 8
        · have e2 : (evl zr n != evl p (-n)) = false := by rw [turn_evl Ht.out hn1 hlt]; simp
          go_wp2_with fail
          refine (deAt_any A4 c4 zr n _ Rr.out.si).mono ?_
          rintro e w' ⟨rfl, rfl⟩
          go_wp2_with fail
          refine (deAt_any A1 c1 p (-n) _ Pp.out.si).mono ?_
          rintro e w' ⟨rfl, rfl⟩
          go_wp2
          go_round
          case rel => exact ⟨n + 1, by omega, by omega, rfl⟩
          case measure => simp [intOf]; omega
        · go_wp2_with fail
          refine (TurnPoly_any A4 c4 zr _ Rr.out.si).mono ?_
          rintro e w8 ⟨A6, c6, rfl, own, bb⟩
          rw [turn_turn Ht.out] at own
          simp only [turn_turn Ht.out, Option.isSome_some, Option.getD_some] at own ⊢
          have Pp := hd (Pp.out.below bb)
          have Qq := hd (Qq.out.below bb)
          have Rr := hd (Rr.out.below bb)
          have k8 := k7.trans (bb.mono k7.size)
          have Bk := hd own
          clear own bb
          go_wp2_with fail
          refine (deInts_any A6 A1 c6 c1 p p _ Bk.out.si Pp.out.si).mono ?_
          rintro e w9 ⟨rfl, bb⟩
          simp only [decide_true]
          have Pp := hd (Pp.out.below bb)
          have Qq := hd (Qq.out.below bb)
          have Rr := hd (Rr.out.below bb)
          have Bk := hd (Bk.out.below bb)
          have k9 := k8.trans (bb.mono k8.size)
          clear bb
          go_wp2
          go_ret
          exact ⟨rfl, k9⟩
  | some q =>
    have ho : oq = true := by rw [← Hq.out.2, hs]; rfl
    have hz : zq = q := by rw [← Hq.out.1, hs]; rfl
    subst ho hz
    have Hs := hd hs
    clear hs
    cases ht : turnP p with
    | none =>
      have hf : or = false := by rw [← Hr.out.2, ht]; rfl
      subst hf
      clear ht
      go_wp2
      go_loop [13] (fun i => ∃ n : Int, -8 ≤ n ∧ n ≤ 9 ∧ i = .int .i64 n) (fun i => (9 - intOf i).toNat)
      case atStart => exact ⟨-8, by omega, by omega, rfl⟩
      case round =>
        obtain ⟨n, hn1, hn2, rfl⟩ := hrel
        by_cases hlt : n ≤ 8
        · have hb := mul_bd m n 10 8 (by decide) (by have := (stepP_some Hs.out).2.2.1; omega) (by have := (stepP_some Hs.out).2.2.1; omega) (by omega) (by omega)
          obtain ⟨hb1, hb2⟩ := hb
          have e1 : (evl zq n != evl p (m * n)) = false := by rw [step_evl Hs.out hn1 hlt]; simp
          go_wp2_with fail
          refine (deAt_any A2 c2 zq n _ Qq.out.si).mono ?_
          rintro e w' ⟨rfl, rfl⟩
          go_wp2_with fail
          refine (deAt_any A1 c1 p (m * n) _ Pp.out.si).mono ?_
          rintro e w' ⟨rfl, rfl⟩
          go_wp2
          go_round
          case rel => exact ⟨n + 1, by omega, by omega, rfl⟩
          case measure => simp [intOf]; omega
        · go_wp2
          go_ret
          exact ⟨rfl, k7⟩
    | some r =>
      have hf : or = true := by rw [← Hr.out.2, ht]; rfl
      have hz : zr = r := by rw [← Hr.out.1, ht]; rfl
      subst hf hz
      have Ht := hd ht
      clear ht
      go_wp2
      go_loop [13] (fun i => ∃ n : Int, -8 ≤ n ∧ n ≤ 9 ∧ i = .int .i64 n) (fun i => (9 - intOf i).toNat)
      case atStart => exact ⟨-8, by omega, by omega, rfl⟩
      case round =>
        obtain ⟨n, hn1, hn2, rfl⟩ := hrel
        by_cases hlt : n ≤ 8
        · have hb := mul_bd m n 10 8 (by decide) (by have := (stepP_some Hs.out).2.2.1; omega) (by have := (stepP_some Hs.out).2.2.1; omega) (by omega) (by omega)
          obtain ⟨hb1, hb2⟩ := hb
          have e1 : (evl zq n != evl p (m * n)) = false := by rw [step_evl Hs.out hn1 hlt]; simp
          have e2 : (evl zr n != evl p (-n)) = false := by rw [turn_evl Ht.out hn1 hlt]; simp
          go_wp2_with fail
          refine (deAt_any A2 c2 zq n _ Qq.out.si).mono ?_
          rintro e w' ⟨rfl, rfl⟩
          go_wp2_with fail
          refine (deAt_any A1 c1 p (m * n) _ Pp.out.si).mono ?_
          rintro e w' ⟨rfl, rfl⟩
          go_wp2_with fail
          refine (deAt_any A4 c4 zr n _ Rr.out.si).mono ?_
          rintro e w' ⟨rfl, rfl⟩
          go_wp2_with fail
          refine (deAt_any A1 c1 p (-n) _ Pp.out.si).mono ?_
          rintro e w' ⟨rfl, rfl⟩
          go_wp2
          go_round
          case rel => exact ⟨n + 1, by omega, by omega, rfl⟩
          case measure => simp [intOf]; omega
        · go_wp2_with fail
          refine (TurnPoly_any A4 c4 zr _ Rr.out.si).mono ?_
          rintro e w8 ⟨A6, c6, rfl, own, bb⟩
          rw [turn_turn Ht.out] at own
          simp only [turn_turn Ht.out, Option.isSome_some, Option.getD_some] at own ⊢
          have Pp := hd (Pp.out.below bb)
          have Qq := hd (Qq.out.below bb)
          have Rr := hd (Rr.out.below bb)
          have k8 := k7.trans (bb.mono k7.size)
          have Bk := hd own
          clear own bb
          go_wp2_with fail
          refine (deInts_any A6 A1 c6 c1 p p _ Bk.out.si Pp.out.si).mono ?_
          rintro e w9 ⟨rfl, bb⟩
          simp only [decide_true]
          have Pp := hd (Pp.out.below bb)
          have Qq := hd (Qq.out.below bb)
          have Rr := hd (Rr.out.below bb)
          have Bk := hd (Bk.out.below bb)
          have k9 := k8.trans (bb.mono k8.size)
          clear bb
          by_cases hm1 : 1 < m
          · go_wp2
            go_ret
            exact ⟨rfl, k9⟩
          · have Hzp : Hid (zq = p) := hd (step_one (by rw [← show m = 1 by have := (stepP_some Hs.out).2.2.1; omega]; exact Hs.out))
            go_wp2_with fail
            refine (deInts_any A2 A1 c2 c1 zq p _ Qq.out.si Pp.out.si).mono ?_
            rintro e w10 ⟨rfl, bb⟩
            rw [show decide (zq = p) = true from decide_eq_true Hzp.out]
            have Pp := hd (Pp.out.below bb)
            have Qq := hd (Qq.out.below bb)
            have Rr := hd (Rr.out.below bb)
            have Bk := hd (Bk.out.below bb)
            have k10 := k9.trans (bb.mono k9.size)
            clear bb
            go_wp2
            go_ret
            exact ⟨rfl, k10⟩

end Go.Proofs.Ythoodhdcmckkpaa
