/- The walk of the law on trimming: it returns true, whatever the draw. -/
import Derived.Test.YthoodhdcmckkpaaLawC
import Derived.Test.YthoodhdcmckkpaaDrawD
import Derived.Test.YthoodhdcmckkpaaSpecF
namespace Go.Proofs.Ythoodhdcmckkpaa
open Go.RowKit

theorem DegreeOf_d (A : Option Addr) (c : Nat) (p : List Int) (d : Int) (w : World) (h : SI w A p) (hcap : p.length ≤ c) (hdeg : degP p = d) :
    Calls Try.prog 39 #[.slice A p.length c] w fun e w' => e = .returned (.int .i64 d) ∧ Below w.heap.size w w' := by
  subst hdeg; exact DegreeOf_any A c p w h hcap

theorem sDegreeOf_d (A : Option Addr) (c : Nat) (p : List Int) (d : Int) (w : World) (h : SI w A p) (hcap : p.length ≤ c) (hdeg : degP p = d) :
    Calls Try.prog 41 #[.slice A p.length c] w fun e w' => e = .returned (.int .i64 d) ∧ Below w.heap.size w w' := by
  subst hdeg; exact sDegreeOf_any A c p w h hcap

theorem TrimPoly_q (A : Option Addr) (c : Nat) (p q : List Int) (w : World) (h : SI w A p) (hcap : p.length ≤ c) (hq : trimP p = q) :
    Calls Try.prog 38 #[.slice A p.length c] w fun e w' => RetI 3 w.heap.size w q e w' := by
  subst hq; exact TrimPoly_any A c p w h hcap

theorem sTrimPoly_q (A : Option Addr) (c : Nat) (p q : List Int) (w : World) (h : SI w A p) (hcap : p.length ≤ c) (hq : trimP p = q) :
    Calls Try.prog 40 #[.slice A p.length c] w fun e w' => RetI 3 w.heap.size w q e w' := by
  subst hq; exact sTrimPoly_any A c p w h hcap

theorem TrimPoly_n (n : Nat) (A : Option Addr) (c : Nat) (p q : List Int) (w : World) (hn : p.length = n) (h : SI w A p) (hcap : p.length ≤ c) (hq : trimP p = q) :
    Calls Try.prog 38 #[.slice A n c] w fun e w' => RetI 3 w.heap.size w q e w' := by
  subst hn hq; exact TrimPoly_any A c p w h hcap

theorem deInts_n (n m : Nat) (A A' : Option Addr) (c c' : Nat) (xs : List Int) (w : World) (hn : xs.length = n) (hm : xs.length = m) (h : SI w A xs) (h' : SI w A' xs) :
    Calls Try.prog 22 #[.slice A n c, .slice A' m c'] w fun e w' => e = .returned (.bool true) ∧ Below w.heap.size w w' := by
  subst hn hm
  exact (deInts_any A A' c c' xs xs w h h').mono fun e w' ⟨he, hw⟩ => ⟨by rw [he]; simp, hw⟩

theorem Trim_big (A : Option Addr) (c n : Nat) (w : World) (h1 : 1048576 < n) (h2 : n ≤ 9223372036854775807) :
    Calls Try.prog 7 #[.slice A n c] w fun e w' => e = .returned (.bool true) ∧ Below w.heap.size w w' := by
  have hbig' : (1048576 : Int) < n := by omega
  go_enter Try.func7, Try.ntmps7
  go_wp2
  go_ret
  exact ⟨rfl, Below.refl _ _⟩

set_option maxHeartbeats 4000000 in
theorem Trim_walk (A : Option Addr) (c : Nat) (zs : List Int) (w : World) (h : SR w A (zs.map (Value.int .u8))) (hbig : zs.length ≤ 1048576) (hcap : zs.length ≤ c) (hx : ∀ x ∈ zs, 0 ≤ x ∧ x ≤ 255) :
    Calls Try.prog 7 #[.slice A zs.length c] w fun e w' => e = .returned (.bool true) ∧ Below w.heap.size w w' := by
  have H := hd h
  have Hx := hd hx
  clear h hx
  go_enter Try.func7, Try.ntmps7
  go_wp2_with fail
  refine (DrawTrimPoly_any A c zs _ H.out hcap Hx.out).mono ?_
  rintro e w1 ⟨A1, c1, p, rfl, hp8, own, hcap1, bb⟩
  have k1 := bb
  have Pp := hd own
  clear own
  clear bb
  obtain ⟨q, Hq⟩ : ∃ q, Hid (trimP p = q) := ⟨_, hd rfl⟩
  obtain ⟨d, Hd⟩ : ∃ d, Hid (degP p = d) := ⟨_, hd rfl⟩
  have ed : (d != d) = false := by simp
  have ed2 : (d == d) = true := by simp
  go_wp2_with fail
  refine (TrimPoly_q A1 c1 p q _ Pp.out.si hcap1 Hq.out).mono ?_
  rintro e w2 ⟨A2, c2, rfl, own, bb⟩
  have Pp := hd (Pp.out.below bb)
  have k2 := k1.trans (bb.mono k1.size)
  have Qq := hd own
  clear own
  clear bb
  go_wp2_with fail
  refine (DegreeOf_d A1 c1 p d _ Pp.out.si hcap1 Hd.out).mono ?_
  rintro e w3 ⟨rfl, bb⟩
  have Pp := hd (Pp.out.below bb)
  have Qq := hd (Qq.out.below bb)
  have k3 := k2.trans (bb.mono k2.size)
  clear bb
  go_wp2_with fail
  refine (sTrimPoly_q A1 c1 p q _ Pp.out.si hcap1 Hq.out).mono ?_
  rintro e w4 ⟨A3, c3, rfl, own, bb⟩
  have Pp := hd (Pp.out.below bb)
  have Qq := hd (Qq.out.below bb)
  have k4 := k3.trans (bb.mono k3.size)
  have Qw := hd own
  clear own
  clear bb
  go_wp2_with fail
  refine (deInts_any A2 A3 c2 c3 q q _ Qq.out.si Qw.out.si).mono ?_
  rintro e w5 ⟨rfl, bb⟩
  simp only [decide_true]
  have Pp := hd (Pp.out.below bb)
  have Qq := hd (Qq.out.below bb)
  have Qw := hd (Qw.out.below bb)
  have k5 := k4.trans (bb.mono k4.size)
  clear bb
  go_wp2_with fail
  refine (sDegreeOf_d A1 c1 p d _ Pp.out.si hcap1 Hd.out).mono ?_
  rintro e w6 ⟨rfl, bb⟩
  have Pp := hd (Pp.out.below bb)
  have Qq := hd (Qq.out.below bb)
  have k6 := k5.trans (bb.mono k5.size)
  clear bb
  go_wp2_with fail
  refine (PolyValid_any A1 c1 p _ Pp.out.si).mono ?_
  rintro e w' ⟨rfl, rfl⟩
  cases hv : validP p
  · go_wp2_with fail
    refine (sTrimPoly_q A1 c1 p q _ Pp.out.si hcap1 Hq.out).mono ?_
    rintro e w7 ⟨A4, c4, rfl, own, bb⟩
    have Pp := hd (Pp.out.below bb)
    have Qq := hd (Qq.out.below bb)
    have k7 := k6.trans (bb.mono k6.size)
    have Qx := hd own
    clear own
    clear bb
    go_wp2_with fail
    refine (deInts_any A2 A4 c2 c4 q q _ Qq.out.si Qx.out.si).mono ?_
    rintro e w8 ⟨rfl, bb⟩
    simp only [decide_true]
    have Pp := hd (Pp.out.below bb)
    have Qq := hd (Qq.out.below bb)
    have Qx := hd (Qx.out.below bb)
    have k8 := k7.trans (bb.mono k7.size)
    clear bb
    go_wp2_with fail
    refine (sDegreeOf_d A1 c1 p d _ Pp.out.si hcap1 Hd.out).mono ?_
    rintro e w9 ⟨rfl, bb⟩
    have Pp := hd (Pp.out.below bb)
    have Qq := hd (Qq.out.below bb)
    have Qx := hd (Qx.out.below bb)
    have k9 := k8.trans (bb.mono k8.size)
    clear bb
    go_wp2
    go_ret
    exact ⟨rfl, k9⟩
  · have Hv := hd hv
    clear hv
    go_wp2
    go_loop [6] (fun i => ∃ m : Int, -8 ≤ m ∧ m ≤ 9 ∧ i = .int .i64 m) (fun i => (9 - intOf i).toNat)
    case atStart => exact ⟨-8, by omega, by omega, rfl⟩
    case round =>
      obtain ⟨m, hm1, hm2, rfl⟩ := hrel
      by_cases hlt : m ≤ 8
      · have He : (evl q m != evl p m) = false := by rw [← Hq.out, trimP_evl Hv.out]; simp
        go_wp2_with fail
        refine (deAt_any A2 c2 q m _ Qq.out.si).mono ?_
        rintro e w' ⟨rfl, rfl⟩
        go_wp2_with fail
        refine (deAt_any A1 c1 p m _ Pp.out.si).mono ?_
        rintro e w' ⟨rfl, rfl⟩
        go_wp2
        go_round
        case rel => exact ⟨m + 1, by omega, by omega, rfl⟩
        case measure => simp [intOf]; omega
      · have Hcq := hd Qq.out.cap
        have Hqq : Hid (trimP q = q) := hd (by rw [← Hq.out, trimP_idem Hv.out])
        cases hz : allB p 0
        · obtain ⟨k, x, hk1, hk2, hk3, hk4, hk5⟩ := degP_some Hv.out hz
          rw [Hq.out] at hk2 hk4
          obtain rfl : d = (k : Int) := by rw [← Hd.out, hk1]
          obtain ⟨g, y, hy, rfl, hcy, _⟩ := Qq.out.at_ (k := k) (by omega)
          obtain rfl : y = x := by rw [hk4] at hy; injection hy with hy; exact hy.symm
          clear hy hk4 hk1 hz
          have hk7 : k < 8 := by omega
          go_wp2_with fail
          have Hk := hd hk2
          refine (TrimPoly_n _ _ c2 q q _ (by first | exact Hk.out | rfl) Qq.out.si Hcq.out Hqq.out).mono ?_
          rintro e w7 ⟨A6, c6, rfl, own, bb⟩
          have Pp := hd (Pp.out.below bb)
          have Qq := hd (Qq.out.below bb)
          have k7 := k6.trans (bb.mono k6.size)
          have Bk := hd own
          clear own bb
          go_wp2_with fail
          refine (deInts_n _ _ A6 (some ⟨g, 0, none⟩) c6 c2 q _ (by first | exact Hk.out | rfl) (by first | exact Hk.out | rfl) Bk.out.si Qq.out.si).mono ?_
          rintro e w8 ⟨rfl, bb⟩
          have Pp := hd (Pp.out.below bb)
          have Qq := hd (Qq.out.below bb)
          have Bk := hd (Bk.out.below bb)
          have k8 := k7.trans (bb.mono k7.size)
          clear bb
          go_wp2
          go_ret
          exact ⟨rfl, k8⟩
        · obtain ⟨hk1, hk2⟩ := degP_zero Hv.out hz
          rw [Hq.out] at hk2
          obtain rfl : d = -1 := by rw [← Hd.out, hk1]
          have hp1 : 1 ≤ p.length := (validP_iff.1 Hv.out).1
          clear hk1 hz
          go_wp2_with fail
          have Hk := hd hk2
          refine (TrimPoly_n _ _ c2 q q _ (by first | exact Hk.out | rfl) Qq.out.si Hcq.out Hqq.out).mono ?_
          rintro e w7 ⟨A6, c6, rfl, own, bb⟩
          have Pp := hd (Pp.out.below bb)
          have Qq := hd (Qq.out.below bb)
          have k7 := k6.trans (bb.mono k6.size)
          have Bk := hd own
          clear own bb
          go_wp2_with fail
          refine (deInts_n _ _ A6 A2 c6 c2 q _ (by first | exact Hk.out | rfl) (by first | exact Hk.out | rfl) Bk.out.si Qq.out.si).mono ?_
          rintro e w8 ⟨rfl, bb⟩
          have Pp := hd (Pp.out.below bb)
          have Qq := hd (Qq.out.below bb)
          have Bk := hd (Bk.out.below bb)
          have k8 := k7.trans (bb.mono k7.size)
          clear bb
          go_wp2
          go_ret
          exact ⟨rfl, k8⟩

end Go.Proofs.Ythoodhdcmckkpaa
