/- The walk of the law on sums: it returns true, whatever the draw. -/
import Derived.Test.YthoodhdcmckkpaaLawG
import Derived.Test.YthoodhdcmckkpaaDrawF
import Derived.Test.YthoodhdcmckkpaaSpecG
import Derived.Test.YthoodhdcmckkpaaPureI
namespace Go.Proofs.Ythoodhdcmckkpaa
open Go.RowKit

theorem AddPolys_big (A : Option Addr) (c n : Nat) (w : World) (h1 : 1048576 < n) (h2 : n ≤ 9223372036854775807) :
    Calls Try.prog 11 #[.slice A n c] w fun e w' => e = .returned (.bool true) ∧ Below w.heap.size w w' := by
  have hbig' : (1048576 : Int) < n := by omega
  go_enter Try.func11, Try.ntmps11
  go_wp2
  go_ret
  exact ⟨rfl, Below.refl _ _⟩

set_option maxHeartbeats 4000000 in
theorem AddPolys_walk (A : Option Addr) (c : Nat) (zs : List Int) (w : World) (h : SR w A (zs.map (Value.int .u8))) (hbig : zs.length ≤ 1048576) (hcap : zs.length ≤ c) (hx : ∀ x ∈ zs, 0 ≤ x ∧ x ≤ 255) :
    Calls Try.prog 11 #[.slice A zs.length c] w fun e w' => e = .returned (.bool true) ∧ Below w.heap.size w w' := by
  have H := hd h
  have Hx := hd hx
  clear h hx
  go_enter Try.func11, Try.ntmps11
  go_wp2_with fail
  refine (DrawAddPolys_any A c zs _ H.out hcap Hx.out).mono ?_
  rintro e w1 ⟨A1, c1, p, B1, d1, q, rfl, ⟨hp8, own, hcap1⟩, ⟨hq8, ownq, hcap2⟩, bb⟩
  have k1 := bb
  have Pp := hd own
  have Pq := hd ownq
  clear own
  clear ownq
  clear bb
  go_wp2_with fail
  refine (AddPolys_any A1 B1 c1 d1 p q _ Pp.out.si Pq.out.si).mono ?_
  rintro e w2 ⟨A2, c2, rfl, own, bb⟩
  have Pp := hd (Pp.out.below bb)
  have Pq := hd (Pq.out.below bb)
  have k2 := k1.trans (bb.mono k1.size)
  have Ss := hd own
  clear own
  clear bb
  go_wp2_with fail
  refine (sAddPolys_any A1 B1 c1 d1 p q _ Pp.out.si Pq.out.si).mono ?_
  rintro e w3 ⟨A3, c3, rfl, own, bb⟩
  have Pp := hd (Pp.out.below bb)
  have Pq := hd (Pq.out.below bb)
  have Ss := hd (Ss.out.below bb)
  have k3 := k2.trans (bb.mono k2.size)
  have Sw := hd own
  clear own
  clear bb
  obtain ⟨s, os, Hs0⟩ : ∃ z o, Hid ((addP p q).getD [] = z ∧ (addP p q).isSome = o) := ⟨_, _, hd ⟨rfl, rfl⟩⟩
  simp only [Hs0.out.1, Hs0.out.2] at Ss Sw ⊢
  go_wp2_with fail
  refine (deInts_any A2 A3 c2 c3 s s _ Ss.out.si Sw.out.si).mono ?_
  rintro e w4 ⟨rfl, bb⟩
  simp only [decide_true]
  have Pp := hd (Pp.out.below bb)
  have Pq := hd (Pq.out.below bb)
  have Ss := hd (Ss.out.below bb)
  have Sw := hd (Sw.out.below bb)
  have k4 := k3.trans (bb.mono k3.size)
  clear bb
  cases hs : addP p q with
  | none =>
    have ho : os = false := by rw [← Hs0.out.2, hs]; rfl
    subst ho
    clear hs
    go_wp2_with fail
    refine (deInts_any A2 A3 c2 c3 s s _ Ss.out.si Sw.out.si).mono ?_
    rintro e w5 ⟨rfl, bb⟩
    simp only [decide_true]
    have Pp := hd (Pp.out.below bb)
    have Pq := hd (Pq.out.below bb)
    have Ss := hd (Ss.out.below bb)
    have Sw := hd (Sw.out.below bb)
    have k5 := k4.trans (bb.mono k4.size)
    clear bb
    go_wp2
    go_ret
    exact ⟨rfl, k5⟩
  | some s' =>
    have ho : os = true := by rw [← Hs0.out.2, hs]; rfl
    have hz : s' = s := by rw [← Hs0.out.1, hs]; rfl
    rw [hz] at hs
    subst ho
    have Hs := hd hs
    clear hs hz
    obtain ⟨t, ht, htv, hte, htl⟩ := neg_some (addP_some Hs.out).2.1
    have Ht := hd ht
    have Htv := hd htv
    have Hte := hd hte
    have Hb := hd (add_back Hs.out hte htv)
    obtain ⟨b, Hbe⟩ : ∃ b, Hid ((tab s.length fun k => p.getD k 0) = b) := ⟨_, hd rfl⟩
    rw [Hbe.out] at Hb
    have Hls : Hid (s.length = max p.length q.length) := hd (addP_some Hs.out).2.2.2.2.1
    have Htr : Hid (trimP b = trimP p) := hd (by rw [← Hbe.out]; refine trim_pad (addP_some Hs.out).1 (by have := Hls.out; omega) ?_; rw [Hbe.out]; exact (addP_some Hb.out).2.2.1)
    obtain ⟨u, Hu⟩ : ∃ u, Hid (trimP p = u) := ⟨_, hd rfl⟩
    rw [Hu.out] at Htr
    clear ht htv hte htl
    go_wp2_with fail
    refine (ScalePoly_any B1 d1 q (-1) _ Pq.out.si).mono ?_
    rintro e w5 ⟨A4, c4, rfl, own, bb⟩
    rw [Ht.out] at own
    simp only [Ht.out, Option.isSome_some, Option.getD_some] at own ⊢
    have Pp := hd (Pp.out.below bb)
    have Pq := hd (Pq.out.below bb)
    have Ss := hd (Ss.out.below bb)
    have k5 := k4.trans (bb.mono k4.size)
    have Mi := hd own
    clear own bb
    go_wp2_with fail
    refine (AddPolys_any A2 A4 c2 c4 s t _ Ss.out.si Mi.out.si).mono ?_
    rintro e w6 ⟨A5, c5, rfl, own, bb⟩
    rw [Hb.out] at own
    simp only [Hb.out, Option.isSome_some, Option.getD_some] at own ⊢
    have Pp := hd (Pp.out.below bb)
    have Pq := hd (Pq.out.below bb)
    have Ss := hd (Ss.out.below bb)
    have Mi := hd (Mi.out.below bb)
    have k6 := k5.trans (bb.mono k5.size)
    have Bk := hd own
    clear own bb
    go_wp2_with fail
    refine (sScalePoly_any B1 d1 q (-1) _ Pq.out.si).mono ?_
    rintro e w7 ⟨A6, c6, rfl, own, bb⟩
    rw [Ht.out] at own
    simp only [Ht.out, Option.isSome_some, Option.getD_some] at own ⊢
    have Pp := hd (Pp.out.below bb)
    have Pq := hd (Pq.out.below bb)
    have Ss := hd (Ss.out.below bb)
    have Mi := hd (Mi.out.below bb)
    have Bk := hd (Bk.out.below bb)
    have k7 := k6.trans (bb.mono k6.size)
    have Mw := hd own
    clear own bb
    go_wp2
    go_loop [15] (fun i => ∃ m : Int, -6 ≤ m ∧ m ≤ 7 ∧ i = .int .i64 m) (fun i => (7 - intOf i).toNat)
    case atStart => exact ⟨-6, by omega, by omega, rfl⟩
    case round =>
      obtain ⟨m, hm1, hm2, rfl⟩ := hrel
      by_cases hlt : m ≤ 6
      · have he := add_evl Hs.out m (by omega) (by omega)
        have he2 := neg_evl (addP_some Hs.out).2.1 Htv.out Hte.out m (by omega) (by omega)
        obtain ⟨b1, b2⟩ := evl_bd60 (p := p) (n := m) (by omega) (by omega)
        obtain ⟨b3, b4⟩ := evl_bd60 (p := q) (n := m) (by omega) (by omega)
        have E1 : (evl s m != evl p m + evl q m) = false := by rw [he]; simp
        have E2 : (evl t m != -evl q m) = false := by rw [he2]; simp
        clear he he2
        go_wp2_with fail
        refine (deAt_any A2 c2 s m _ Ss.out.si).mono ?_
        rintro e w' ⟨rfl, rfl⟩
        go_wp2_with fail
        refine (deAt_any A1 c1 p m _ Pp.out.si).mono ?_
        rintro e w' ⟨rfl, rfl⟩
        go_wp2_with fail
        refine (deAt_any B1 d1 q m _ Pq.out.si).mono ?_
        rintro e w' ⟨rfl, rfl⟩
        go_wp2_with fail
        refine (deAt_any A4 c4 t m _ Mi.out.si).mono ?_
        rintro e w' ⟨rfl, rfl⟩
        go_wp2_with fail
        refine (deAt_any B1 d1 q m _ Pq.out.si).mono ?_
        rintro e w' ⟨rfl, rfl⟩
        go_wp2
        go_round
        case rel => exact ⟨m + 1, by omega, by omega, rfl⟩
        case measure => simp [intOf]; omega
      · have Hcb := hd Bk.out.cap
        go_wp2_with fail
        refine (deInts_any A4 A6 c4 c6 t t _ Mi.out.si Mw.out.si).mono ?_
        rintro e w8 ⟨rfl, bb⟩
        simp only [decide_true]
        have Pp := hd (Pp.out.below bb)
        have Pq := hd (Pq.out.below bb)
        have Ss := hd (Ss.out.below bb)
        have Mi := hd (Mi.out.below bb)
        have Bk := hd (Bk.out.below bb)
        have Mw := hd (Mw.out.below bb)
        have k8 := k7.trans (bb.mono k7.size)
        clear bb
        go_wp2_with fail
        refine (TrimPoly_q A5 c5 b u _ Bk.out.si Hcb.out Htr.out).mono ?_
        rintro e w9 ⟨A7, c7, rfl, own, bb⟩
        have Pp := hd (Pp.out.below bb)
        have Pq := hd (Pq.out.below bb)
        have Ss := hd (Ss.out.below bb)
        have Mi := hd (Mi.out.below bb)
        have Bk := hd (Bk.out.below bb)
        have Mw := hd (Mw.out.below bb)
        have k9 := k8.trans (bb.mono k8.size)
        have U1 := hd own
        clear own
        clear bb
        go_wp2_with fail
        refine (TrimPoly_q A1 c1 p u _ Pp.out.si hcap1 Hu.out).mono ?_
        rintro e w10 ⟨A8, c8, rfl, own, bb⟩
        have Pp := hd (Pp.out.below bb)
        have Pq := hd (Pq.out.below bb)
        have Ss := hd (Ss.out.below bb)
        have Mi := hd (Mi.out.below bb)
        have Bk := hd (Bk.out.below bb)
        have Mw := hd (Mw.out.below bb)
        have U1 := hd (U1.out.below bb)
        have k10 := k9.trans (bb.mono k9.size)
        have U2 := hd own
        clear own
        clear bb
        go_wp2_with fail
        refine (deInts_any A7 A8 c7 c8 u u _ U1.out.si U2.out.si).mono ?_
        rintro e w11 ⟨rfl, bb⟩
        simp only [decide_true]
        have Pp := hd (Pp.out.below bb)
        have Pq := hd (Pq.out.below bb)
        have Ss := hd (Ss.out.below bb)
        have Mi := hd (Mi.out.below bb)
        have Bk := hd (Bk.out.below bb)
        have Mw := hd (Mw.out.below bb)
        have U1 := hd (U1.out.below bb)
        have U2 := hd (U2.out.below bb)
        have k11 := k10.trans (bb.mono k10.size)
        clear bb
        by_cases hmx : p.length < q.length
        · have E3 : ((s.length : Int) == q.length) = true := by have := Hls.out; simp; omega
          go_wp2
          go_ret
          exact ⟨rfl, k11⟩
        · have E3 : ((s.length : Int) == p.length) = true := by have := Hls.out; simp; omega
          go_wp2
          go_ret
          exact ⟨rfl, k11⟩

end Go.Proofs.Ythoodhdcmckkpaa
