/- The walk of the law on coefficients of powers: it returns true, whatever the draw. -/
import Derived.Test.YthoodhdcmckkpaaLawC
import Derived.Test.YthoodhdcmckkpaaDrawD
import Derived.Test.YthoodhdcmckkpaaPolyI
import Derived.Test.YthoodhdcmckkpaaSpecK
import Derived.Test.YthoodhdcmckkpaaLawI
namespace Go.Proofs.Ythoodhdcmckkpaa
open Go.RowKit

theorem powP_len {p : List Int} (h : validP p = true) : (powP p).length = p.length := by rw [powP, if_pos h, tab_length]

/-- A bound for the loop that reckons a value by its coefficients of powers. -/
theorem powP_drop_bd {p : List Int} (hv : validP p = true) {n : Int} (h1 : -7 ≤ n) (h2 : n ≤ 7) (i : Nat) : -100000000000000000 ≤ pw ((powP p).drop i) n ∧ pw ((powP p).drop i) n ≤ 100000000000000000 := by
  have h7 := (validP_iff.1 hv).2.1
  have := pw_bd7 700000000000 (by decide) n h1 h2 ((powP p).drop i) (by rw [List.length_drop, powP_len hv]; omega) fun x hm => powP_bd hv x (List.mem_of_mem_drop hm)
  omega

theorem PowersOf_z (A : Option Addr) (c : Nat) (p z : List Int) (w : World) (h : SI w A p) (hz : powP p = z) :
    Calls Try.prog 26 #[.slice A p.length c] w fun e w' => RetI 3 w.heap.size w z e w' := by
  subst hz; exact PowersOf_any A c p w h
theorem sPowersOf_z (A : Option Addr) (c : Nat) (p z : List Int) (w : World) (h : SI w A p) (hl : p.length ≤ 1000) (hz : powP p = z) :
    Calls Try.prog 27 #[.slice A p.length c] w fun e w' => RetI 3 w.heap.size w z e w' := by
  subst hz; exact sPowersOf_any A c p w h hl
theorem PolyValid_b (A : Option Addr) (c : Nat) (p : List Int) (b : Bool) (w : World) (h : SI w A p) (hb : validP p = b) :
    Calls Try.prog 28 #[.slice A p.length c] w fun e w' => e = .returned (.bool b) ∧ w = w' := by
  subst hb; exact PolyValid_any A c p w h

theorem PowersOf_big (A : Option Addr) (c n : Nat) (w : World) (h1 : 1048576 < n) (h2 : n ≤ 9223372036854775807) :
    Calls Try.prog 4 #[.slice A n c] w fun e w' => e = .returned (.bool true) ∧ Below w.heap.size w w' := by
  have hbig' : (1048576 : Int) < n := by omega
  go_enter Try.func4, Try.ntmps4
  go_wp2
  go_ret
  exact ⟨rfl, Below.refl _ _⟩

set_option maxHeartbeats 4000000 in
theorem PowersOf_walk (A : Option Addr) (c : Nat) (zs : List Int) (w : World) (h : SR w A (zs.map (Value.int .u8))) (hbig : zs.length ≤ 1048576) (hcap : zs.length ≤ c) (hx : ∀ x ∈ zs, 0 ≤ x ∧ x ≤ 255) :
    Calls Try.prog 4 #[.slice A zs.length c] w fun e w' => e = .returned (.bool true) ∧ Below w.heap.size w w' := by
  have H := hd h
  have Hx := hd hx
  clear h hx
  go_enter Try.func4, Try.ntmps4
  go_wp2_with fail
  refine (DrawPowersOf_any A c zs _ H.out hcap Hx.out).mono ?_
  rintro e w1 ⟨A1, c1, p, rfl, hp8, own, hcap1, k1⟩
  have Pp := hd own
  clear own
  obtain ⟨z, Hz⟩ : ∃ z, Hid (powP p = z) := ⟨_, hd rfl⟩
  go_wp2_with fail
  refine (PowersOf_z A1 c1 p z _ Pp.out.si Hz.out).mono ?_
  rintro e w2 ⟨A2, c2, rfl, own, bb⟩
  have Pp := hd (Pp.out.below bb)
  have k2 := k1.trans (bb.mono k1.size)
  have Zz := hd own
  clear own bb
  go_wp2_with fail
  refine (sPowersOf_z A1 c1 p z _ Pp.out.si (by omega) Hz.out).mono ?_
  rintro e w3 ⟨A3, c3, rfl, own, bb⟩
  have Pp := hd (Pp.out.below bb)
  have Zz := hd (Zz.out.below bb)
  have k3 := k2.trans (bb.mono k2.size)
  have Zw := hd own
  clear own bb
  go_wp2_with fail
  refine (deInts_any A2 A3 c2 c3 z z _ Zz.out.si Zw.out.si).mono ?_
  rintro e w4 ⟨rfl, bb⟩
  simp only [decide_true]
  have Pp := hd (Pp.out.below bb)
  have Zz := hd (Zz.out.below bb)
  have k4 := k3.trans (bb.mono k3.size)
  clear bb Zw
  cases hv : validP p
  · have Hv := hd hv
    obtain rfl : z = [] := by rw [← Hz.out, powP, if_neg (by rw [hv]; simp)]
    have e0 : ((([] : List Int).length : Int) == 0) = true := by simp
    clear hv
    go_wp2_with fail
    refine (sPowersOf_z A1 c1 p [] _ Pp.out.si (by omega) Hz.out).mono ?_
    rintro e w5 ⟨A5, c5, rfl, own, bb⟩
    have Pp := hd (Pp.out.below bb)
    have Zz := hd (Zz.out.below bb)
    have k5 := k4.trans (bb.mono k4.size)
    have Zw := hd own
    clear own bb
    go_wp2_with fail
    refine (deInts_any A2 A5 c2 c5 [] [] _ Zz.out.si Zw.out.si).mono ?_
    rintro e w6 ⟨rfl, bb⟩
    simp only [decide_true]
    have Pp := hd (Pp.out.below bb)
    have k6 := k5.trans (bb.mono k5.size)
    clear bb
    go_wp2_with fail
    refine (PolyValid_b A1 c1 p false _ Pp.out.si Hv.out).mono ?_
    rintro e w' ⟨rfl, rfl⟩
    go_wp2
    go_ret
    exact ⟨rfl, k6⟩
  · have Hv := hd hv
    have Hl : Hid (z.length = p.length) := hd (by rw [← Hz.out, powP_len hv])
    have hz1 : 1 ≤ z.length := by rw [Hl.out]; exact (validP_iff.1 hv).1
    have hz7 : z.length ≤ 7 := by rw [Hl.out]; exact (validP_iff.1 hv).2.1
    have e0 : ((z.length : Int) == 0) = false := beq_eq_false_iff_ne.2 (by omega)
    have e1 : ((z.length : Int) == p.length) = true := by have := Hl.out; simp; omega
    clear hv
    go_wp2
    go_loop [5] (fun i => ∃ m : Int, -7 ≤ m ∧ m ≤ 8 ∧ i = .int .i64 m) (fun i => (8 - intOf i).toNat)
    case atStart => exact ⟨-7, by omega, by omega, rfl⟩
    case round =>
      obtain ⟨m, hm1, hm2, rfl⟩ := hrel
      by_cases hlt : m ≤ 7
      · go_wp2
        go_loop [6, 7] (fun v i => ∃ k : Nat, k ≤ z.length ∧ i = .int .i64 ((k : Int) - 1) ∧ v = .int .i64 (pw (z.drop k) m)) (fun _ i => (intOf i + 1).toNat)
        case atStart => exact ⟨z.length, by omega, rfl, by rw [List.drop_length]; rfl⟩
        case round =>
          obtain ⟨k, hk, rfl, rfl⟩ := hrel
          have hb := powP_drop_bd Hv.out (n := m) (by omega) hlt k
          rw [Hz.out] at hb
          obtain ⟨hb1, hb2⟩ := hb
          obtain ⟨y, Hy⟩ : ∃ y, Hid (pw (z.drop k) m = y) := ⟨_, hd rfl⟩
          rw [Hy.out] at hb1 hb2
          rw [Hy.out]
          by_cases hk0 : 0 < k
          · obtain ⟨l, rfl⟩ : ∃ l, k = l + 1 := ⟨k - 1, by omega⟩
            have ei : ((l + 1 : Nat) : Int) - 1 = (l : Int) := by omega
            rw [ei]
            obtain ⟨x, b, off, hx, rfl, hb, hcc⟩ := Zz.out.si.at_ (k := l) (by omega)
            have hxb := powP_bd Hv.out x (by rw [Hz.out]; exact List.mem_of_getElem? hx)
            obtain ⟨hx1, hx2⟩ := hxb
            have Hn := hd (pw_drop hx m)
            rw [Hy.out] at Hn
            have hm := mul_bd y m 100000000000000000 7 (by decide) hb1 hb2 (by omega) (by omega)
            obtain ⟨hm3, hm4⟩ := hm
            have hm5 : -700000000000000000 ≤ y * m := by omega
            have hm6 : y * m ≤ 700000000000000000 := by omega
            clear hx ei hm3 hm4
            go_wp2
            go_round
            case rel => exact ⟨l, by omega, by go_num, by rw [Hn.out]⟩
            case measure => simp [intOf] <;> omega
          · obtain rfl : k = 0 := by omega
            have Hf : Hid (y = 720 * evl p m) := hd (by
              rw [← Hy.out, List.drop_zero, ← Hz.out, pw_powP Hv.out, evl_in Hv.out (by omega) (by omega)])
            obtain ⟨hv1, hv2⟩ := evl_bd10 (p := p) (n := m) (by omega) (by omega)
            have E1 : (y != 720 * evl p m) = false := by rw [Hf.out]; simp
            go_wp2_with fail
            refine (deAt_any A1 c1 p m _ Pp.out.si).mono ?_
            rintro e w' ⟨rfl, rfl⟩
            go_wp2
            go_round
            case rel => exact ⟨m + 1, by omega, by omega, rfl⟩
            case measure => simp [intOf] <;> omega
      · go_wp2
        go_ret
        exact ⟨rfl, k4⟩

end Go.Proofs.Ythoodhdcmckkpaa
