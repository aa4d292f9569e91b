/- The walk of the law on polynomials of powers: it returns true, whatever the draw. -/
import Derived.Test.YthoodhdcmckkpaaLawM
import Derived.Test.YthoodhdcmckkpaaPolyJ
import Derived.Test.YthoodhdcmckkpaaSpecJ
namespace Go.Proofs.Ythoodhdcmckkpaa
open Go.RowKit

theorem Powers_big (A : Option Addr) (c n : Nat) (w : World) (h1 : 1048576 < n) (h2 : n ≤ 9223372036854775807) :
    Calls Try.prog 13 #[.slice A n c] w fun e w' => e = .returned (.bool true) ∧ Below w.heap.size w w' := by
  have hbig' : (1048576 : Int) < n := by omega
  go_enter Try.func13, Try.ntmps13
  go_wp2
  go_ret
  exact ⟨rfl, Below.refl _ _⟩

set_option maxHeartbeats 4000000 in
theorem Powers_walk (A : Option Addr) (c : Nat) (zs : List Int) (w : World) (h : SR w A (zs.map (Value.int .u8))) (hbig : zs.length ≤ 1048576) (hcap : zs.length ≤ c) (hx : ∀ x ∈ zs, 0 ≤ x ∧ x ≤ 255) :
    Calls Try.prog 13 #[.slice A zs.length c] w fun e w' => e = .returned (.bool true) ∧ Below w.heap.size w w' := by
  have H := hd h
  have Hx := hd hx
  clear h hx
  go_enter Try.func13, Try.ntmps13
  go_wp2_with fail
  refine (DrawFromPowers_any A c zs _ H.out hcap Hx.out).mono ?_
  rintro e w1 ⟨A1, c1, q, rfl, hq8, own, hcap1, k1⟩
  have Pq := hd own
  clear own
  obtain ⟨s, os, Hs0⟩ : ∃ z o, Hid ((fromP q).getD [] = z ∧ (fromP q).isSome = o) := ⟨_, _, hd ⟨rfl, rfl⟩⟩
  go_wp2_with fail
  refine (FromPowers_any A1 c1 q _ Pq.out.si).mono ?_
  rintro e w2 ⟨A2, c2, rfl, own, bb⟩
  simp only [Hs0.out.1, Hs0.out.2] at own ⊢
  have Pq := hd (Pq.out.below bb)
  have k2 := k1.trans (bb.mono k1.size)
  have Ss := hd own
  clear own bb
  go_wp2_with fail
  refine (sFromPowers_any A1 c1 q _ Pq.out.si).mono ?_
  rintro e w3 ⟨A3, c3, rfl, own, bb⟩
  simp only [Hs0.out.1, Hs0.out.2] at own ⊢
  have Pq := hd (Pq.out.below bb)
  have Ss := hd (Ss.out.below bb)
  have k3 := k2.trans (bb.mono k2.size)
  have Sw := hd own
  clear own bb
  go_wp2_with fail
  refine (deInts_any A2 A3 c2 c3 s s _ Ss.out.si Sw.out.si).mono ?_
  rintro e w4 ⟨rfl, bb⟩
  simp only [decide_true]
  have Pq := hd (Pq.out.below bb)
  have Ss := hd (Ss.out.below bb)
  have Sw := hd (Sw.out.below bb)
  have k4 := k3.trans (bb.mono k3.size)
  clear bb
  cases hs : fromP q with
  | none =>
    have ho : os = false := by rw [← Hs0.out.2, hs]; rfl
    subst ho
    clear hs
    go_wp2_with fail
    refine (deInts_any A2 A3 c2 c3 s s _ Ss.out.si Sw.out.si).mono ?_
    rintro e w5 ⟨rfl, bb⟩
    simp only [decide_true]
    have k5 := k4.trans (bb.mono k4.size)
    clear bb
    go_wp2
    go_ret
    exact ⟨rfl, k5⟩
  | some s' =>
    have ho : os = true := by rw [← Hs0.out.2, hs]; rfl
    have hz : s' = s := by rw [← Hs0.out.1, hs]; rfl
    rw [hz] at hs
    subst ho
    have Hs := hd hs
    have Hq := hd (fromP_some hs).1
    have hq7 : q.length ≤ 7 := (validP_iff.1 (fromP_some hs).1).2.1
    have Hqx := hd (validP_iff.1 (fromP_some hs).1).2.2
    have Hb : Hid (powP s = q.map fun x => 720 * x) := hd (powers_back hs)
    have Hev : Hid (∀ m : Int, -7 ≤ m → m ≤ 7 → evl s m = pw q m) := hd (fun m h1 h2 => by
      obtain ⟨_, hv, _, hval⟩ := fromP_some hs
      rw [evl_in hv (by omega) (by omega), hval])
    clear hs hz
    go_wp2
    go_loop [8] (fun i => ∃ m : Int, -6 ≤ m ∧ m ≤ 7 ∧ i = .int .i64 m) (fun i => (7 - intOf i).toNat)
    case atStart => exact ⟨-6, by omega, by omega, rfl⟩
    case round =>
      obtain ⟨m, hm1, hm2, rfl⟩ := hrel
      by_cases hlt : m ≤ 6
      · go_wp2
        go_loop [9, 10] (fun v i => ∃ k : Nat, k ≤ q.length ∧ i = .int .i64 ((k : Int) - 1) ∧ v = .int .i64 (pw (q.drop k) m)) (fun _ i => (intOf i + 1).toNat)
        case atStart => exact ⟨q.length, by omega, rfl, by rw [List.drop_length]; rfl⟩
        case round =>
          obtain ⟨k, hk, rfl, rfl⟩ := hrel
          obtain ⟨hb1, hb2⟩ := pw_drop_bd Hq.out (n := m) (by omega) (by omega) k
          obtain ⟨y, Hy⟩ : ∃ y, Hid (pw (q.drop k) m = y) := ⟨_, hd rfl⟩
          rw [Hy.out] at hb1 hb2
          rw [Hy.out]
          by_cases hk0 : 0 < k
          · obtain ⟨l, rfl⟩ : ∃ l, k = l + 1 := ⟨k - 1, by omega⟩
            have ei : ((l + 1 : Nat) : Int) - 1 = (l : Int) := by omega
            rw [ei]
            obtain ⟨x, b, off, hx, rfl, hb, hcc⟩ := Pq.out.si.at_ (k := l) (by omega)
            obtain ⟨hx1, hx2⟩ := Hqx.out x (List.mem_of_getElem? hx)
            have Hn := hd (pw_drop hx m)
            rw [Hy.out] at Hn
            have hm := mul_bd y m 13725700000 7 (by decide) hb1 hb2 (by omega) (by omega)
            obtain ⟨hm3, hm4⟩ := hm
            have hm5 : -700000000000000000 ≤ y * m := by omega
            have hm6 : y * m ≤ 700000000000000000 := by omega
            clear hx ei hm3 hm4
            go_wp2
            go_round
            case rel => exact ⟨l, by omega, by go_num, by rw [Hn.out]⟩
            case measure => simp [intOf] <;> omega
          · obtain rfl : k = 0 := by omega
            have Hf : Hid (evl s m = y) := hd (by
              rw [Hev.out m (by omega) (by omega), ← Hy.out, List.drop_zero])
            have E1 : (evl s m != y) = false := by rw [Hf.out]; simp
            go_wp2_with fail
            refine (deAt_any A2 c2 s m _ Ss.out.si).mono ?_
            rintro e w' ⟨rfl, rfl⟩
            go_wp2
            go_round
            case rel => exact ⟨m + 1, by omega, by omega, rfl⟩
            case measure => simp [intOf] <;> omega
      · obtain ⟨z, Hz⟩ : ∃ z, Hid (powP s = z) := ⟨_, hd rfl⟩
        have Hzl : Hid (z.length = q.length) := hd (by rw [← Hz.out, Hb.out, List.length_map])
        have Hzx : Hid (∀ (i : Nat) (x y : Int), z[i]? = some x → q[i]? = some y → x = 720 * y) := hd (fun i x y hx hy => by
          rw [← Hz.out, Hb.out, List.getElem?_map, hy] at hx
          simp at hx
          exact hx.symm)
        have e9 : ((z.length : Int) == q.length) = true := by have := Hzl.out; simp; omega
        go_wp2_with fail
        refine (PowersOf_z A2 c2 s z _ Ss.out.si Hz.out).mono ?_
        rintro e w5 ⟨A5, c5, rfl, own, bb⟩
        have Pq := hd (Pq.out.below bb)
        have k5 := k4.trans (bb.mono k4.size)
        have Zz := hd own
        clear own bb
        go_wp2
        go_loopw [12] (fun i wr => ∃ k md : Nat, k ≤ z.length ∧ i = .int .i64 k ∧ wr = w5.drewN md) (fun i _ => z.length - (intOf i).toNat)
        case atStart => exact ⟨0, 0, by omega, rfl, rfl⟩
        case round =>
          obtain ⟨k, md, hk, rfl, rfl⟩ := hrel
          have k5 := below_drewN k5 md
          by_cases hkl : k < z.length
          · obtain ⟨x, b, off, hx, rfl, hb, hcc⟩ := Zz.out.si.at_ hkl
            obtain ⟨y, b', off', hy, rfl, hb', hcc'⟩ := Pq.out.si.at_ (k := k) (by rw [← Hzl.out]; exact hkl)
            have hkq : k < q.length := by rw [← Hzl.out]; exact hkl
            obtain ⟨hy1, hy2⟩ := Hqx.out y (List.mem_of_getElem? hy)
            have E2 : (x != 720 * y) = false := by rw [Hzx.out k x y hx hy]; simp
            have w9 : IntKind.i64.wrap (720 * y) = 720 * y := IntWalk.i64_in _ (by omega)
            clear hx hy
            go_wp2
            go_quiet (fail)
            clear w9
            go_wp2
            go_roundw
            case rel => exact ⟨k + 1, _, by omega, by go_num, rfl⟩
            case measure => simp [intOf]; omega
          · go_wp2
            go_ret
            exact ⟨rfl, k5⟩

end Go.Proofs.Ythoodhdcmckkpaa
