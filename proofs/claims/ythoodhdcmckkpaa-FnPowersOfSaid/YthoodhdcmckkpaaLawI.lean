/- The walk of the law on the difference of a product: it returns true, whatever the draw. -/
import Derived.Test.YthoodhdcmckkpaaLawH
import Derived.Test.YthoodhdcmckkpaaDrawG
import Derived.Test.YthoodhdcmckkpaaSpecH
import Derived.Test.YthoodhdcmckkpaaPureJ
namespace Go.Proofs.Ythoodhdcmckkpaa
open Go.RowKit

theorem evl_bd10 {p : List Int} {n : Int} (h1 : -10 ≤ n) (h2 : n ≤ 10) : -1000000000 ≤ evl p n ∧ evl p n ≤ 1000000000 := by
  rw [evl]
  split
  · rename_i h
    simp at h
    exact val10 h.1 h1 h2
  · decide

theorem muldiff_evl {p q s : List Int} (h : mulP p q = some s) {n : Int} (h1 : -100 ≤ n) (h2 : n ≤ 100) :
    evl (diffP s) n = evl p (n + 1) * evl (diffP q) n + evl (diffP p) n * evl q n := by
  obtain ⟨hp, hq, hs, _, hv⟩ := mulP_some h
  rw [evl_in (diffP_valid hs) (by omega) (by omega), evl_in hp (by omega) (by omega), evl_in (diffP_valid hq) (by omega) (by omega), evl_in (diffP_valid hp) (by omega) (by omega), evl_in hq (by omega) (by omega)]
  rw [diffP_val hs, diffP_val hq, diffP_val hp, hv, hv, Int.mul_sub, Int.sub_mul]
  omega

theorem MulDifference_big (A : Option Addr) (c n : Nat) (w : World) (h1 : 1048576 < n) (h2 : n ≤ 9223372036854775807) :
    Calls Try.prog 15 #[.slice A n c] w fun e w' => e = .returned (.bool true) ∧ Below w.heap.size w w' := by
  have hbig' : (1048576 : Int) < n := by omega
  go_enter Try.func15, Try.ntmps15
  go_wp2
  go_ret
  exact ⟨rfl, Below.refl _ _⟩

set_option maxHeartbeats 4000000 in
theorem MulDifference_walk (A : Option Addr) (c : Nat) (zs : List Int) (w : World) (h : SR w A (zs.map (Value.int .u8))) (hbig : zs.length ≤ 1048576) (hcap : zs.length ≤ c) (hx : ∀ x ∈ zs, 0 ≤ x ∧ x ≤ 255) :
    Calls Try.prog 15 #[.slice A zs.length c] w fun e w' => e = .returned (.bool true) ∧ Below w.heap.size w w' := by
  have H := hd h
  have Hx := hd hx
  clear h hx
  go_enter Try.func15, Try.ntmps15
  go_wp2_with fail
  refine (DrawMulPolys_any A c zs _ H.out hcap Hx.out).mono ?_
  rintro e w1 ⟨A1, c1, p, B1, d1, q, rfl, ⟨hp8, own, hcap1⟩, ⟨hq8, ownq, hcap2⟩, bb⟩
  have k1 := bb
  have Pp := hd own
  have Pq := hd ownq
  clear own
  clear ownq
  clear bb
  go_wp2_with fail
  refine (MulPolys_any A1 B1 c1 d1 p q _ Pp.out Pq.out).mono ?_
  rintro e w2 ⟨A2, c2, rfl, own, bb⟩
  have Pp := hd (Pp.out.below bb)
  have Pq := hd (Pq.out.below bb)
  have k2 := k1.trans (bb.mono k1.size)
  have Ss := hd own
  clear own
  clear bb
  go_wp2_with fail
  refine (sMulPolys_any A1 B1 c1 d1 p q _ Pp.out Pq.out).mono ?_
  rintro e w3 ⟨A3, c3, rfl, own, bb⟩
  have Pp := hd (Pp.out.below bb)
  have Pq := hd (Pq.out.below bb)
  have Ss := hd (Ss.out.below bb)
  have k3 := k2.trans (bb.mono k2.size)
  have Sw := hd own
  clear own
  clear bb
  obtain ⟨s, os, Hs0⟩ : ∃ z o, Hid ((mulP p q).getD [] = z ∧ (mulP p q).isSome = o) := ⟨_, _, hd ⟨rfl, rfl⟩⟩
  simp only [Hs0.out.1, Hs0.out.2] at Ss Sw ⊢
  go_wp2_with fail
  refine (deInts_any A2 A3 c2 c3 s s _ Ss.out.si Sw.out.si).mono ?_
  rintro e w4 ⟨rfl, bb⟩
  simp only [decide_true]
  have Pp := hd (Pp.out.below bb)
  have Pq := hd (Pq.out.below bb)
  have Ss := hd (Ss.out.below bb)
  have Sw := hd (Sw.out.below bb)
  have k4 := k3.trans (bb.mono k3.size)
  clear bb
  cases hs : mulP p q with
  | none =>
    have ho : os = false := by rw [← Hs0.out.2, hs]; rfl
    subst ho
    clear hs
    go_wp2_with fail
    refine (deInts_any A2 A3 c2 c3 s s _ Ss.out.si Sw.out.si).mono ?_
    rintro e w5 ⟨rfl, bb⟩
    simp only [decide_true]
    have Pp := hd (Pp.out.below bb)
    have Pq := hd (Pq.out.below bb)
    have Ss := hd (Ss.out.below bb)
    have Sw := hd (Sw.out.below bb)
    have k5 := k4.trans (bb.mono k4.size)
    clear bb
    go_wp2
    go_ret
    exact ⟨rfl, k5⟩
  | some s' =>
    have ho : os = true := by rw [← Hs0.out.2, hs]; rfl
    have hz : s' = s := by rw [← Hs0.out.1, hs]; rfl
    rw [hz] at hs
    subst ho
    have Hs := hd hs
    clear hs hz
    have Hcs := hd Ss.out.cap
    obtain ⟨d, Hd⟩ : ∃ d, Hid (diffP s = d) := ⟨_, hd rfl⟩
    obtain ⟨x, Hdx⟩ : ∃ d, Hid (diffP p = d) := ⟨_, hd rfl⟩
    obtain ⟨y, Hdy⟩ : ∃ d, Hid (diffP q = d) := ⟨_, hd rfl⟩
    go_wp2_with fail
    refine (DifferencePoly_any A2 c2 s _ Ss.out.si Hcs.out).mono ?_
    rintro e w5 ⟨A4, c4, rfl, own, bb⟩
    simp only [Hd.out] at own ⊢
    have Pp := hd (Pp.out.below bb)
    have Pq := hd (Pq.out.below bb)
    have Ss := hd (Ss.out.below bb)
    have k5 := k4.trans (bb.mono k4.size)
    have Dd := hd own
    clear own bb
    go_wp2_with fail
    refine (DifferencePoly_any A1 c1 p _ Pp.out hcap1).mono ?_
    rintro e w6 ⟨A5, c5, rfl, own, bb⟩
    simp only [Hdx.out] at own ⊢
    have Pp := hd (Pp.out.below bb)
    have Pq := hd (Pq.out.below bb)
    have Ss := hd (Ss.out.below bb)
    have Dd := hd (Dd.out.below bb)
    have k6 := k5.trans (bb.mono k5.size)
    have Dx := hd own
    clear own bb
    go_wp2_with fail
    refine (DifferencePoly_any B1 d1 q _ Pq.out hcap2).mono ?_
    rintro e w7 ⟨A6, c6, rfl, own, bb⟩
    simp only [Hdy.out] at own ⊢
    have Pp := hd (Pp.out.below bb)
    have Pq := hd (Pq.out.below bb)
    have Ss := hd (Ss.out.below bb)
    have Dd := hd (Dd.out.below bb)
    have Dx := hd (Dx.out.below bb)
    have k7 := k6.trans (bb.mono k6.size)
    have Dy := hd own
    clear own bb
    go_wp2
    go_loop [12] (fun i => ∃ m : Int, -6 ≤ m ∧ m ≤ 7 ∧ i = .int .i64 m) (fun i => (7 - intOf i).toNat)
    case atStart => exact ⟨-6, by omega, by omega, rfl⟩
    case round =>
      obtain ⟨m, hm1, hm2, rfl⟩ := hrel
      by_cases hlt : m ≤ 6
      · obtain ⟨b1, b2⟩ := evl_bd10 (p := p) (n := m + 1) (by omega) (by omega)
        obtain ⟨b3, b4⟩ := evl_bd10 (p := q) (n := m) (by omega) (by omega)
        obtain ⟨b5, b6⟩ := evl_bd10 (p := y) (n := m) (by omega) (by omega)
        obtain ⟨b7, b8⟩ := evl_bd10 (p := x) (n := m) (by omega) (by omega)
        obtain ⟨h1, h2⟩ := mul_bd _ _ 1000000000 1000000000 (by decide) b1 b2 b5 b6
        obtain ⟨h3, h4⟩ := mul_bd _ _ 1000000000 1000000000 (by decide) b7 b8 b3 b4
        have g1 : -1000000000000000000 ≤ evl p (m + 1) * evl y m := by omega
        have g2 : evl p (m + 1) * evl y m ≤ 1000000000000000000 := by omega
        have g3 : -1000000000000000000 ≤ evl x m * evl q m := by omega
        have g4 : evl x m * evl q m ≤ 1000000000000000000 := by omega
        have E1 : (evl d m != evl p (m + 1) * evl y m + evl x m * evl q m) = false := by rw [← Hd.out, ← Hdx.out, ← Hdy.out, muldiff_evl Hs.out (by omega) (by omega)]; simp
        clear b1 b2 b3 b4 b5 b6 b7 b8 h1 h2 h3 h4
        go_wp2_with fail
        refine (deAt_any A4 c4 d m _ Dd.out.si).mono ?_
        rintro e w' ⟨rfl, rfl⟩
        go_wp2_with fail
        refine (deAt_any A1 c1 p (m + 1) _ Pp.out).mono ?_
        rintro e w' ⟨rfl, rfl⟩
        go_wp2_with fail
        refine (deAt_any A6 c6 y m _ Dy.out.si).mono ?_
        rintro e w' ⟨rfl, rfl⟩
        go_wp2_with fail
        refine (deAt_any A5 c5 x m _ Dx.out.si).mono ?_
        rintro e w' ⟨rfl, rfl⟩
        go_wp2_with fail
        refine (deAt_any B1 d1 q m _ Pq.out).mono ?_
        rintro e w' ⟨rfl, rfl⟩
        go_wp2
        go_round
        case rel => exact ⟨m + 1, by omega, by omega, rfl⟩
        case measure => simp [intOf]; omega
      · go_wp2
        go_ret
        exact ⟨rfl, k7⟩

end Go.Proofs.Ythoodhdcmckkpaa
