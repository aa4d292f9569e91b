/- The walk of the law on sums and differences: it returns true, whatever the draw. -/
import Derived.Test.YthoodhdcmckkpaaLawC
import Derived.Test.YthoodhdcmckkpaaDrawD
import Derived.Test.YthoodhdcmckkpaaSpecD
import Derived.Test.YthoodhdcmckkpaaPureD
namespace Go.Proofs.Ythoodhdcmckkpaa
open Go.RowKit

theorem SumDifference_big (A : Option Addr) (c n : Nat) (w : World) (h1 : 1048576 < n) (h2 : n ≤ 9223372036854775807) :
    Calls Try.prog 3 #[.slice A n c] w fun e w' => e = .returned (.bool true) ∧ Below w.heap.size w w' := by
  have hbig' : (1048576 : Int) < n := by omega
  go_enter Try.func3, Try.ntmps3
  go_wp2
  go_ret
  exact ⟨rfl, Below.refl _ _⟩

set_option maxHeartbeats 1600000 in
theorem SumDifference_walk (A : Option Addr) (c : Nat) (zs : List Int) (w : World) (h : SR w A (zs.map (Value.int .u8))) (hbig : zs.length ≤ 1048576) (hcap : zs.length ≤ c) (hx : ∀ x ∈ zs, 0 ≤ x ∧ x ≤ 255) :
    Calls Try.prog 3 #[.slice A zs.length c] w fun e w' => e = .returned (.bool true) ∧ Below w.heap.size w w' := by
  have H := hd h
  have Hx := hd hx
  clear h hx
  go_enter Try.func3, Try.ntmps3
  go_wp2_with fail
  refine (DrawSumPoly_any A c zs _ H.out hcap Hx.out).mono ?_
  rintro e w1 ⟨A1, c1, p, v, rfl, hp8, own1, hcap1, k1, hvb⟩
  have P1 := hd own1.si
  clear own1 hvb
  go_wp2_with fail
  refine (SumPoly_any A1 c1 p v _ P1.out).mono ?_
  rintro e w2 ⟨A2, c2, rfl, own2, b2⟩
  have P2 := hd (P1.out.below b2)
  have k2 := k1.trans (b2.mono k1.size)
  have O2 := hd own2
  clear own2
  go_wp2_with fail
  refine (sSumPoly_any A1 c1 p v _ P2.out (by omega)).mono ?_
  rintro e w3 ⟨A3, c3, rfl, own3, b3⟩
  have P3 := hd (P2.out.below b3)
  have k3 := k2.trans (b3.mono k2.size)
  have O3 := hd (O2.out.below b3)
  have S3 := hd own3.si
  clear own3
  cases hr : sumP p v with
  | none =>
    simp only [hr, Option.isSome_none, Option.getD_none, List.length_nil] at O3 S3 ⊢
    clear hr O2
    go_wp2_with fail
    refine (deInts_any A2 A3 c2 c3 [] [] _ O3.out.si S3.out).mono ?_
    rintro e w4 ⟨rfl, b4⟩
    simp only [decide_true]
    have s4 := hd (O3.out.si.below b4)
    have s4' := hd (S3.out.below b4)
    have k4 := k3.trans (b4.mono k3.size)
    go_wp2_with fail
    refine (deInts_any A2 A3 c2 c3 [] [] _ s4.out s4'.out).mono ?_
    rintro e w5 ⟨rfl, b5⟩
    simp only [decide_true]
    have k5 := k4.trans (b5.mono k4.size)
    go_wp2
    go_ret
    exact ⟨rfl, k5⟩
  | some q =>
    simp only [hr, Option.isSome_some, Option.getD_some] at O3 S3 ⊢
    have Hr := hd hr
    clear hr O2
    go_wp2_with fail
    refine (deInts_any A2 A3 c2 c3 q q _ O3.out.si S3.out).mono ?_
    rintro e w4 ⟨rfl, b4⟩
    simp only [decide_true]
    have Q4 := hd (O3.out.below b4)
    have P4 := hd (P3.out.below b4)
    have k4 := k3.trans (b4.mono k3.size)
    have hst := hd (sum_start Hr.out)
    go_wp2
    go_loop [9, 10] (fun s i => ∃ k : Nat, k ≤ 12 ∧ i = .int .i64 k ∧ s = .int .i64 (evl q k)) (fun _ i => 12 - (intOf i).toNat)
    case atStart => exact ⟨0, by omega, rfl, by rw [show ((0 : Nat) : Int) = 0 from rfl, hst.out]⟩
    case round =>
      obtain ⟨k, hk, rfl, rfl⟩ := hrel
      by_cases hlt : k < 12
      · have HS := hd (sum_step Hr.out (k : Int) (by omega) (by omega))
        obtain ⟨d1, d2⟩ := evl_bd60 (p := q) (n := k) (by omega) (by omega)
        obtain ⟨d3, d4⟩ := evl_bd60 (p := p) (n := k) (by omega) (by omega)
        have hne : (evl q k != evl q k) = false := by simp
        go_wp2_with fail
        refine (deAt_any A2 c2 q k _ Q4.out.si).mono ?_
        rintro e w' ⟨rfl, rfl⟩
        go_wp2_with fail
        refine (deAt_any A1 c1 p k _ P4.out).mono ?_
        rintro e w' ⟨rfl, rfl⟩
        go_wp2
        go_round
        case rel => exact ⟨k + 1, by omega, by go_num, by rw [show ((k + 1 : Nat) : Int) = (k : Int) + 1 by omega, HS.out]⟩
        case measure => simp [intOf]; omega
      · have Hd := hd (sum_diff Hr.out)
        have Hcap := hd Q4.out.cap
        have hlt' : ¬ (k : Int) < 12 := by omega
        clear hlt
        go_wp2_with fail
        refine (DifferencePoly_any A2 c2 q _ Q4.out.si Hcap.out).mono ?_
        rintro e w5 ⟨A5, c5, rfl, own5, b5⟩
        have S5 := hd own5.si
        have P5 := hd (P4.out.below b5)
        have Q5 := hd (Q4.out.below b5)
        have k5 := k4.trans (b5.mono k4.size)
        clear own5
        go_wp2_with fail
        refine (deInts_any A5 A1 c5 c1 (diffP q) p _ S5.out P5.out).mono ?_
        rintro e w6 ⟨rfl, b6⟩
        rw [Hd.out.1]
        simp only [decide_true]
        have Q6 := hd (Q5.out.below b6)
        have k6 := k5.trans (b6.mono k5.size)
        obtain ⟨g, x, hx, rfl, hc, hf⟩ := Q6.out.at_ (k := 0) (by
          have := Hd.out.2
          rcases q with _ | ⟨q0, q⟩
          · simp at this
          · simp)
        obtain rfl : x = v := by
          have := Hd.out.2
          rw [this] at hx
          injection hx with hx
          exact hx.symm
        have Hlq : Hid (0 < q.length) := hd (by
          rcases q with _ | ⟨q0, q⟩
          · simp at hx
          · simp)
        have hlq := Hlq.out
        have heq : (x == x) = true := by simp
        clear hx
        go_wp2
        go_ret
        exact ⟨rfl, k6⟩

end Go.Proofs.Ythoodhdcmckkpaa
