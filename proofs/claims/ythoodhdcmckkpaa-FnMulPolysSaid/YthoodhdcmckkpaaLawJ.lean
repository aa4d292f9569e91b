/- The walk of the law on products: it returns true, whatever the draw. -/
import Derived.Test.YthoodhdcmckkpaaLawI
import Derived.Test.YthoodhdcmckkpaaPureK
namespace Go.Proofs.Ythoodhdcmckkpaa
open Go.RowKit

theorem mul_evl {p q s : List Int} (h : mulP p q = some s) {n : Int} (h1 : -100 ≤ n) (h2 : n ≤ 100) : evl s n = evl p n * evl q n := by
  obtain ⟨hp, hq, hs, _, hv⟩ := mulP_some h
  rw [evl_in hs (by omega) (by omega), evl_in hp (by omega) (by omega), evl_in hq (by omega) (by omega), hv]

theorem deg_bd (p : List Int) (h : p.length ≤ 8) : -2 ≤ degP p ∧ degP p ≤ 7 := by
  cases hv : validP p
  · simp [degP, hv]
  · rcases deg_cases hv with h0 | ⟨k, hk, hl⟩ <;> omega

theorem MulPolys_big (A : Option Addr) (c n : Nat) (w : World) (h1 : 1048576 < n) (h2 : n ≤ 9223372036854775807) :
    Calls Try.prog 16 #[.slice A n c] w fun e w' => e = .returned (.bool true) ∧ Below w.heap.size w w' := by
  have hbig' : (1048576 : Int) < n := by omega
  go_enter Try.func16, Try.ntmps16
  go_wp2
  go_ret
  exact ⟨rfl, Below.refl _ _⟩

set_option maxHeartbeats 4000000 in
theorem MulPolys_walk (A : Option Addr) (c : Nat) (zs : List Int) (w : World) (h : SR w A (zs.map (Value.int .u8))) (hbig : zs.length ≤ 1048576) (hcap : zs.length ≤ c) (hx : ∀ x ∈ zs, 0 ≤ x ∧ x ≤ 255) :
    Calls Try.prog 16 #[.slice A zs.length c] w fun e w' => e = .returned (.bool true) ∧ Below w.heap.size w w' := by
  have H := hd h
  have Hx := hd hx
  clear h hx
  go_enter Try.func16, Try.ntmps16
  go_wp2_with fail
  refine (DrawMulPolys_any A c zs _ H.out hcap Hx.out).mono ?_
  rintro e w1 ⟨A1, c1, p, B1, d1, q, rfl, ⟨hp8, own, hcap1⟩, ⟨hq8, ownq, hcap2⟩, bb⟩
  have k1 := bb
  have Pp := hd own
  have Pq := hd ownq
  clear own
  clear ownq
  clear bb
  go_wp2_with fail
  refine (MulPolys_any A1 B1 c1 d1 p q _ Pp.out Pq.out).mono ?_
  rintro e w2 ⟨A2, c2, rfl, own, bb⟩
  have Pp := hd (Pp.out.below bb)
  have Pq := hd (Pq.out.below bb)
  have k2 := k1.trans (bb.mono k1.size)
  have Ss := hd own
  clear own
  clear bb
  go_wp2_with fail
  refine (sMulPolys_any A1 B1 c1 d1 p q _ Pp.out Pq.out).mono ?_
  rintro e w3 ⟨A3, c3, rfl, own, bb⟩
  have Pp := hd (Pp.out.below bb)
  have Pq := hd (Pq.out.below bb)
  have Ss := hd (Ss.out.below bb)
  have k3 := k2.trans (bb.mono k2.size)
  have Sw := hd own
  clear own
  clear bb
  obtain ⟨s, os, Hs0⟩ : ∃ z o, Hid ((mulP p q).getD [] = z ∧ (mulP p q).isSome = o) := ⟨_, _, hd ⟨rfl, rfl⟩⟩
  simp only [Hs0.out.1, Hs0.out.2] at Ss Sw ⊢
  go_wp2_with fail
  refine (deInts_any A2 A3 c2 c3 s s _ Ss.out.si Sw.out.si).mono ?_
  rintro e w4 ⟨rfl, bb⟩
  simp only [decide_true]
  have Pp := hd (Pp.out.below bb)
  have Pq := hd (Pq.out.below bb)
  have Ss := hd (Ss.out.below bb)
  have Sw := hd (Sw.out.below bb)
  have k4 := k3.trans (bb.mono k3.size)
  clear bb
  cases hs : mulP p q with
  | none =>
    have ho : os = false := by rw [← Hs0.out.2, hs]; rfl
    subst ho
    clear hs
    go_wp2_with fail
    refine (deInts_any A2 A3 c2 c3 s s _ Ss.out.si Sw.out.si).mono ?_
    rintro e w5 ⟨rfl, bb⟩
    simp only [decide_true]
    have Pp := hd (Pp.out.below bb)
    have Pq := hd (Pq.out.below bb)
    have Ss := hd (Ss.out.below bb)
    have Sw := hd (Sw.out.below bb)
    have k5 := k4.trans (bb.mono k4.size)
    clear bb
    go_wp2
    go_ret
    exact ⟨rfl, k5⟩
  | some s' =>
    have ho : os = true := by rw [← Hs0.out.2, hs]; rfl
    have hz : s' = s := by rw [← Hs0.out.1, hs]; rfl
    rw [hz] at hs
    subst ho
    have Hs := hd hs
    clear hs hz
    have Hcs := hd Ss.out.cap
    have Hm : Hid (mulP q p = some s) := hd (by rw [mulP_comm]; exact Hs.out)
    have Hls : Hid (s.length = p.length + q.length - 1) := hd (mulP_some Hs.out).2.2.2.1
    obtain ⟨a, Ha⟩ : ∃ d, Hid (degP p = d) := ⟨_, hd rfl⟩
    obtain ⟨b, Hb⟩ : ∃ d, Hid (degP q = d) := ⟨_, hd rfl⟩
    obtain ⟨g, Hg⟩ : ∃ d, Hid (degP s = d) := ⟨_, hd rfl⟩
    go_wp2
    go_loop [9] (fun i => ∃ m : Int, -10 ≤ m ∧ m ≤ 11 ∧ i = .int .i64 m) (fun i => (11 - intOf i).toNat)
    case atStart => exact ⟨-10, by omega, by omega, rfl⟩
    case round =>
      obtain ⟨m, hm1, hm2, rfl⟩ := hrel
      by_cases hlt : m ≤ 10
      · obtain ⟨b1, b2⟩ := evl_bd10 (p := p) (n := m) (by omega) (by omega)
        obtain ⟨b3, b4⟩ := evl_bd10 (p := q) (n := m) (by omega) (by omega)
        obtain ⟨h1, h2⟩ := mul_bd _ _ 1000000000 1000000000 (by decide) b1 b2 b3 b4
        have g1 : -1000000000000000000 ≤ evl p m * evl q m := by omega
        have g2 : evl p m * evl q m ≤ 1000000000000000000 := by omega
        have E1 : (evl s m != evl p m * evl q m) = false := by rw [mul_evl Hs.out (by omega) (by omega)]; simp
        clear b1 b2 b3 b4 h1 h2
        go_wp2_with fail
        refine (deAt_any A2 c2 s m _ Ss.out.si).mono ?_
        rintro e w' ⟨rfl, rfl⟩
        go_wp2_with fail
        refine (deAt_any A1 c1 p m _ Pp.out).mono ?_
        rintro e w' ⟨rfl, rfl⟩
        go_wp2_with fail
        refine (deAt_any B1 d1 q m _ Pq.out).mono ?_
        rintro e w' ⟨rfl, rfl⟩
        go_wp2
        go_round
        case rel => exact ⟨m + 1, by omega, by omega, rfl⟩
        case measure => simp [intOf]; omega
      · go_wp2_with fail
        refine (MulPolys_any B1 A1 d1 c1 q p _ Pq.out Pp.out).mono ?_
        rintro e w5 ⟨A4, c4, rfl, own, bb⟩
        rw [Hm.out] at own
        simp only [Hm.out, Option.isSome_some, Option.getD_some] at own ⊢
        have Pp := hd (Pp.out.below bb)
        have Pq := hd (Pq.out.below bb)
        have Ss := hd (Ss.out.below bb)
        have k5 := k4.trans (bb.mono k4.size)
        have Oo := hd own
        clear own bb
        go_wp2_with fail
        refine (DegreeOf_d A1 c1 p a _ Pp.out hcap1 Ha.out).mono ?_
        rintro e w6 ⟨rfl, bb⟩
        have Pp := hd (Pp.out.below bb)
        have Pq := hd (Pq.out.below bb)
        have Ss := hd (Ss.out.below bb)
        have Oo := hd (Oo.out.below bb)
        have k6 := k5.trans (bb.mono k5.size)
        clear bb
        go_wp2_with fail
        refine (DegreeOf_d B1 d1 q b _ Pq.out hcap2 Hb.out).mono ?_
        rintro e w7 ⟨rfl, bb⟩
        have Pp := hd (Pp.out.below bb)
        have Pq := hd (Pq.out.below bb)
        have Ss := hd (Ss.out.below bb)
        have Oo := hd (Oo.out.below bb)
        have k7 := k6.trans (bb.mono k6.size)
        clear bb
        go_wp2_with fail
        refine (deInts_any A4 A2 c4 c2 s s _ Oo.out.si Ss.out.si).mono ?_
        rintro e w8 ⟨rfl, bb⟩
        simp only [decide_true]
        have Pp := hd (Pp.out.below bb)
        have Pq := hd (Pq.out.below bb)
        have Ss := hd (Ss.out.below bb)
        have Oo := hd (Oo.out.below bb)
        have k8 := k7.trans (bb.mono k7.size)
        clear bb
        have E2 : ((s.length : Int) == (p.length : Int) + q.length - 1) = true := by have := Hls.out; have := (validP_iff.1 (mulP_some Hs.out).1).1; simp; omega
        have ha2 : -2 ≤ a ∧ a ≤ 7 := by rw [← Ha.out]; exact deg_bd p hp8
        have hb2 : -2 ≤ b ∧ b ≤ 7 := by rw [← Hb.out]; exact deg_bd q hq8
        obtain ⟨ha3, ha4⟩ := ha2
        obtain ⟨hb3, hb4⟩ := hb2
        by_cases ha0 : a < 0
        · go_wp2
          go_ret
          exact ⟨rfl, k8⟩
        by_cases hb0 : b < 0
        · go_wp2
          go_ret
          exact ⟨rfl, k8⟩
        have Hgab : Hid (g = a + b) := hd (by rw [← Hg.out, mul_deg Hs.out (a := a.toNat) (b := b.toNat) (by rw [Ha.out]; omega) (by rw [Hb.out]; omega)]; omega)
        have E3 : (g == a + b) = true := by rw [Hgab.out]; simp
        go_wp2_with fail
        refine (DegreeOf_d A2 c2 s g _ Ss.out.si Hcs.out Hg.out).mono ?_
        rintro e w9 ⟨rfl, bb⟩
        have Pp := hd (Pp.out.below bb)
        have Pq := hd (Pq.out.below bb)
        have Ss := hd (Ss.out.below bb)
        have Oo := hd (Oo.out.below bb)
        have k9 := k8.trans (bb.mono k8.size)
        clear bb
        go_wp2
        go_ret
        exact ⟨rfl, k9⟩

end Go.Proofs.Ythoodhdcmckkpaa
