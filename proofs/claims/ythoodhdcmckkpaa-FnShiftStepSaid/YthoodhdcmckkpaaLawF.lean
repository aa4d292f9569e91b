/- The walks of the laws on shifts: they return true, whatever the draw. -/
import Derived.Test.YthoodhdcmckkpaaLawC
import Derived.Test.YthoodhdcmckkpaaDrawE
import Derived.Test.YthoodhdcmckkpaaSpecE
namespace Go.Proofs.Ythoodhdcmckkpaa
open Go.RowKit

theorem Shift_big (A : Option Addr) (c n : Nat) (w : World) (h1 : 1048576 < n) (h2 : n ≤ 9223372036854775807) :
    Calls Try.prog 10 #[.slice A n c] w fun e w' => e = .returned (.bool true) ∧ Below w.heap.size w w' := by
  have hbig' : (1048576 : Int) < n := by omega
  go_enter Try.func10, Try.ntmps10
  go_wp2
  go_ret
  exact ⟨rfl, Below.refl _ _⟩

set_option maxHeartbeats 4000000 in
theorem Shift_walk (A : Option Addr) (c : Nat) (zs : List Int) (w : World) (h : SR w A (zs.map (Value.int .u8))) (hbig : zs.length ≤ 1048576) (hcap : zs.length ≤ c) (hx : ∀ x ∈ zs, 0 ≤ x ∧ x ≤ 255) :
    Calls Try.prog 10 #[.slice A zs.length c] w fun e w' => e = .returned (.bool true) ∧ Below w.heap.size w w' := by
  have H := hd h
  have Hx := hd hx
  clear h hx
  go_enter Try.func10, Try.ntmps10
  go_wp2_with fail
  refine (DrawShiftPoly_any A c zs _ H.out hcap Hx.out).mono ?_
  rintro e w1 ⟨A1, c1, p, n, rfl, hp8, own, hcap1, bb, hnb⟩
  have k1 := bb
  have Pp := hd own
  clear own
  obtain ⟨hnb1, hnb2⟩ := hnb
  clear bb
  go_wp2_with fail
  refine (ShiftPoly_any A1 c1 p n _ Pp.out.si hcap1).mono ?_
  rintro e w2 ⟨A2, c2, rfl, own, bb⟩
  have Pp := hd (Pp.out.below bb)
  have k2 := k1.trans (bb.mono k1.size)
  have Qq := hd own
  clear own
  clear bb
  go_wp2_with fail
  refine (sShiftPoly_any A1 c1 p n _ Pp.out.si).mono ?_
  rintro e w3 ⟨A3, c3, rfl, own, bb⟩
  have Pp := hd (Pp.out.below bb)
  have Qq := hd (Qq.out.below bb)
  have k3 := k2.trans (bb.mono k2.size)
  have Qw := hd own
  clear own
  clear bb
  obtain ⟨q, oq, Hq⟩ : ∃ z o, Hid ((shiftP p n).getD [] = z ∧ (shiftP p n).isSome = o) := ⟨_, _, hd ⟨rfl, rfl⟩⟩
  simp only [Hq.out.1, Hq.out.2] at Qq Qw ⊢
  go_wp2_with fail
  refine (deInts_any A2 A3 c2 c3 q q _ Qq.out.si Qw.out.si).mono ?_
  rintro e w4 ⟨rfl, bb⟩
  simp only [decide_true]
  have Pp := hd (Pp.out.below bb)
  have Qq := hd (Qq.out.below bb)
  have Qw := hd (Qw.out.below bb)
  have k4 := k3.trans (bb.mono k3.size)
  clear bb
  cases hs : shiftP p n with
  | none =>
    have ho : oq = false := by rw [← Hq.out.2, hs]; rfl
    subst ho
    clear hs
    go_wp2_with fail
    refine (deInts_any A2 A3 c2 c3 q q _ Qq.out.si Qw.out.si).mono ?_
    rintro e w5 ⟨rfl, bb⟩
    simp only [decide_true]
    have Pp := hd (Pp.out.below bb)
    have Qq := hd (Qq.out.below bb)
    have Qw := hd (Qw.out.below bb)
    have k5 := k4.trans (bb.mono k4.size)
    clear bb
    go_wp2
    go_ret
    exact ⟨rfl, k5⟩
  | some q' =>
    have ho : oq = true := by rw [← Hq.out.2, hs]; rfl
    have hz : q' = q := by rw [← Hq.out.1, hs]; rfl
    rw [hz] at hs
    subst ho
    have Hs := hd hs
    clear hs hz
    have Hlq : Hid (q.length = p.length) := hd (shiftP_some Hs.out).2.2.2.2.1
    have Hp1 : Hid (1 ≤ p.length) := hd (validP_iff.1 (shiftP_some Hs.out).1).1
    have hn1 : -200 ≤ n := (shiftP_some Hs.out).2.2.1.1
    have hn2 : n ≤ 200 := (shiftP_some Hs.out).2.2.1.2
    have Hvp : Hid (validP p = true) := hd (shiftP_some Hs.out).1
    go_wp2
    go_loop [9] (fun i => ∃ m : Int, -5 ≤ m ∧ m ≤ 11 ∧ i = .int .i64 m) (fun i => (11 - intOf i).toNat)
    case atStart => exact ⟨-5, by omega, by omega, rfl⟩
    case round =>
      obtain ⟨m, hm1, hm2, rfl⟩ := hrel
      by_cases hlt : m ≤ 10
      · cases hin : inB (m + n) 200
        · have Hno : Hid ((validP p && inB (m + n) 200) = false) := hd (by rw [hin]; simp)
          clear hin
          go_wp2_with fail
          refine (EvalPoly_no A1 c1 p (m + n) _ Pp.out.si Hno.out).mono ?_
          rintro e w' ⟨rfl, rfl⟩
          go_wp2
          go_round
          case rel => exact ⟨m + 1, by omega, by omega, rfl⟩
          case measure => simp [intOf]; omega
        · have He : (val p (m + n) != evl q m) = false := by rw [shift_evl Hs.out hm1 hlt hin]; simp
          have Hin := hd hin
          clear hin
          go_wp2_with fail
          refine (EvalPoly_yes A1 c1 p (m + n) _ Pp.out.si Hvp.out Hin.out).mono ?_
          rintro e w' ⟨rfl, rfl⟩
          go_wp2_with fail
          refine (deAt_any A2 c2 q m _ Qq.out.si).mono ?_
          rintro e w' ⟨rfl, rfl⟩
          go_wp2
          go_round
          case rel => exact ⟨m + 1, by omega, by omega, rfl⟩
          case measure => simp [intOf]; omega
      · have Hcq := hd Qq.out.cap
        go_wp2_with fail
        refine (ShiftPoly_any A2 c2 q (-n) _ Qq.out.si Hcq.out).mono ?_
        rintro e w5 ⟨A6, c6, rfl, own, bb⟩
        rw [shift_back Hs.out] at own
        simp only [shift_back Hs.out, Option.isSome_some, Option.getD_some] at own ⊢
        have Pp := hd (Pp.out.below bb)
        have Qq := hd (Qq.out.below bb)
        have k5 := k4.trans (bb.mono k4.size)
        have Bk := hd own
        clear own bb
        obtain ⟨g1, x1, hx1, rfl, hc1, _⟩ := Pp.out.at_ (k := p.length - 1) (by have := Hp1.out; omega)
        obtain ⟨g2, x2, hx2, rfl, hc2, _⟩ := Qq.out.at_ (k := p.length - 1) (by have := Hp1.out; have := Hlq.out; omega)
        obtain rfl : x2 = x1 := shift_last Hs.out hx2 hx1
        clear hx1 hx2
        obtain ⟨l, hl⟩ : ∃ l, p.length = l + 1 := ⟨p.length - 1, by have := Hp1.out; omega⟩
        have hlq : q.length = l + 1 := by rw [Hlq.out, hl]
        have Sb : Hid (SI w5 A6 p) := hd Bk.out.si
        have Sp : Hid (SI w5 (some ⟨g1, 0, none⟩) p) := hd Pp.out.si
        have hpl : p.length - 1 = l := by omega
        rw [hpl] at hc1 hc2
        have Hl := hd hl
        rw [hlq, hl]
        have e1 : IntKind.i64.wrap (((l + 1 : Nat) : Int) - 1) = (l : Int) := by rw [show ((l + 1 : Nat) : Int) - 1 = (l : Int) by omega]; exact IntWalk.i64_in _ (by omega)
        have e5 : IntKind.i64.wrap (l : Int) = (l : Int) := IntWalk.i64_in _ (by omega)
        have e6 : IntKind.i64.wrap ((l : Int) + 1 - 1) = (l : Int) := by rw [show (l : Int) + 1 - 1 = l by omega]; exact e5
        have e2 : (((l + 1 : Nat) : Int) == ((l + 1 : Nat) : Int)) = true := by simp
        have e3 : l < l + 1 := by omega
        have e7 : (l : Int) < (l : Int) + 1 := by omega
        have e4 : (x2 == x2) = true := by simp
        clear hl hlq hpl
        go_wp2
        go_quiet ((refine Calls.quiet_of (v := .bool true) ?_; exact deInts_same (l + 1) A6 (some ⟨g1, 0, none⟩) c6 c1 p _ _ Hl.out Sb.out Sp.out))
        go_wp2
        go_ret
        exact ⟨rfl, below_drewN k5 _⟩

theorem ShiftStep_big (A : Option Addr) (c n : Nat) (w : World) (h1 : 1048576 < n) (h2 : n ≤ 9223372036854775807) :
    Calls Try.prog 9 #[.slice A n c] w fun e w' => e = .returned (.bool true) ∧ Below w.heap.size w w' := by
  have hbig' : (1048576 : Int) < n := by omega
  go_enter Try.func9, Try.ntmps9
  go_wp2
  go_ret
  exact ⟨rfl, Below.refl _ _⟩

set_option maxHeartbeats 4000000 in
theorem ShiftStep_walk (A : Option Addr) (c : Nat) (zs : List Int) (w : World) (h : SR w A (zs.map (Value.int .u8))) (hbig : zs.length ≤ 1048576) (hcap : zs.length ≤ c) (hx : ∀ x ∈ zs, 0 ≤ x ∧ x ≤ 255) :
    Calls Try.prog 9 #[.slice A zs.length c] w fun e w' => e = .returned (.bool true) ∧ Below w.heap.size w w' := by
  have H := hd h
  have Hx := hd hx
  clear h hx
  go_enter Try.func9, Try.ntmps9
  go_wp2_with fail
  refine (DrawShiftPoly_any A c zs _ H.out hcap Hx.out).mono ?_
  rintro e w1 ⟨A1, c1, p, n, rfl, hp8, own, hcap1, bb, hnb⟩
  have k1 := bb
  have Pp := hd own
  clear own
  obtain ⟨hnb1, hnb2⟩ := hnb
  clear bb
  go_wp2_with fail
  refine (ShiftPoly_any A1 c1 p n _ Pp.out.si hcap1).mono ?_
  rintro e w2 ⟨A2, c2, rfl, own, bb⟩
  have Pp := hd (Pp.out.below bb)
  have k2 := k1.trans (bb.mono k1.size)
  have Qq := hd own
  clear own
  clear bb
  go_wp2_with fail
  refine (sShiftPoly_any A1 c1 p n _ Pp.out.si).mono ?_
  rintro e w3 ⟨A3, c3, rfl, own, bb⟩
  have Pp := hd (Pp.out.below bb)
  have Qq := hd (Qq.out.below bb)
  have k3 := k2.trans (bb.mono k2.size)
  have Qw := hd own
  clear own
  clear bb
  obtain ⟨q, oq, Hq⟩ : ∃ z o, Hid ((shiftP p n).getD [] = z ∧ (shiftP p n).isSome = o) := ⟨_, _, hd ⟨rfl, rfl⟩⟩
  simp only [Hq.out.1, Hq.out.2] at Qq Qw ⊢
  go_wp2_with fail
  refine (deInts_any A2 A3 c2 c3 q q _ Qq.out.si Qw.out.si).mono ?_
  rintro e w4 ⟨rfl, bb⟩
  simp only [decide_true]
  have Pp := hd (Pp.out.below bb)
  have Qq := hd (Qq.out.below bb)
  have Qw := hd (Qw.out.below bb)
  have k4 := k3.trans (bb.mono k3.size)
  clear bb
  cases hs : shiftP p n with
  | none =>
    have ho : oq = false := by rw [← Hq.out.2, hs]; rfl
    subst ho
    clear hs
    go_wp2_with fail
    refine (deInts_any A2 A3 c2 c3 q q _ Qq.out.si Qw.out.si).mono ?_
    rintro e w5 ⟨rfl, bb⟩
    simp only [decide_true]
    have Pp := hd (Pp.out.below bb)
    have Qq := hd (Qq.out.below bb)
    have Qw := hd (Qw.out.below bb)
    have k5 := k4.trans (bb.mono k4.size)
    clear bb
    go_wp2
    go_ret
    exact ⟨rfl, k5⟩
  | some q' =>
    have ho : oq = true := by rw [← Hq.out.2, hs]; rfl
    have hz : q' = q := by rw [← Hq.out.1, hs]; rfl
    rw [hz] at hs
    subst ho
    have Hs := hd hs
    clear hs hz
    have Hlq : Hid (q.length = p.length) := hd (shiftP_some Hs.out).2.2.2.2.1
    have hn1 : -200 ≤ n := (shiftP_some Hs.out).2.2.1.1
    have hn2 : n ≤ 200 := (shiftP_some Hs.out).2.2.1.2
    by_cases hbn : 200 ≤ n
    · go_wp2_with fail
      refine (deInts_any A2 A3 c2 c3 q q _ Qq.out.si Qw.out.si).mono ?_
      rintro e w5 ⟨rfl, bb⟩
      simp only [decide_true]
      have Pp := hd (Pp.out.below bb)
      have Qq := hd (Qq.out.below bb)
      have Qw := hd (Qw.out.below bb)
      have k5 := k4.trans (bb.mono k4.size)
      clear bb
      go_wp2
      go_ret
      exact ⟨rfl, k5⟩
    · go_wp2_with fail
      refine (ShiftPoly_any A1 c1 p (n + 1) _ Pp.out.si hcap1).mono ?_
      rintro e w5 ⟨A4, c4, rfl, own, bb⟩
      have Pp := hd (Pp.out.below bb)
      have Qq := hd (Qq.out.below bb)
      have k5 := k4.trans (bb.mono k4.size)
      have Rr := hd own
      clear own
      clear bb
      obtain ⟨r, orr, Hr⟩ : ∃ z o, Hid ((shiftP p (n + 1)).getD [] = z ∧ (shiftP p (n + 1)).isSome = o) := ⟨_, _, hd ⟨rfl, rfl⟩⟩
      simp only [Hr.out.1, Hr.out.2] at Rr ⊢
      cases ht : shiftP p (n + 1) with
      | none =>
        have ho : orr = false := by rw [← Hr.out.2, ht]; rfl
        have hrl : r.length = 0 := by rw [← Hr.out.1, ht]; rfl
        subst ho
        clear ht
        go_wp2
        go_loop [11] (fun i => i = .int .i64 0) (fun i => 0)
        case atStart => rfl
        case round =>
          obtain rfl := hrel
          go_wp2
          go_ret
          exact ⟨rfl, k5⟩
      | some r' =>
        have ho : orr = true := by rw [← Hr.out.2, ht]; rfl
        have hz : r' = r := by rw [← Hr.out.1, ht]; rfl
        rw [hz] at ht
        subst ho
        have Ht := hd ht
        clear ht hz
        have Hlr : Hid (r.length = q.length) := hd ((shiftP_some Ht.out).2.2.2.2.1.trans (shiftP_some Hs.out).2.2.2.2.1.symm)
        have hr8 : r.length ≤ 8 := by rw [Hlr.out, Hlq.out]; exact hp8
        have Hvr : Hid (∀ x ∈ r, -9223372036854775808 ≤ x ∧ x ≤ 9223372036854775807) := hd (fun x hx => by have := (validP_iff.1 (shiftP_some Ht.out).2.1).2.2 x hx; omega)
        go_wp2
        go_loopw [11] (fun i wr => ∃ k : Nat, k ≤ r.length ∧ i = .int .i64 k ∧ ∃ m, wr = w5.drewN m) (fun i _ => r.length - (intOf i).toNat)
        case atStart => exact ⟨0, by omega, rfl, 0, rfl⟩
        case round =>
          obtain ⟨k, hk, rfl, m, rfl⟩ := hrel
          by_cases hlt : k < r.length
          · have hlt' : k < q.length := by have := Hlr.out; omega
            obtain ⟨gr, x, hx, rfl, hcx, _⟩ := Rr.out.at_ hlt
            obtain ⟨gq, y, hy, rfl, hcy, _⟩ := Qq.out.at_ hlt'
            have hbx := Hvr.out x (List.mem_of_getElem? hx)
            have hnx := shift_next Hs.out Ht.out hx hy
            have ex : (x != x) = false := by simp
            have Hx2 := hd hx
            have Hy2 := hd hy
            clear hx hy
            by_cases hab : k + 1 < q.length
            · obtain ⟨gz, z, hz, hAz, hcz, _⟩ := Qq.out.at_ hab
              have hgz : gq = gz := by simpa using hAz
              subst hgz
              rw [hz] at hnx
              simp only [Option.getD_some] at hnx
              have ew : IntKind.i64.wrap (y + z) = x := by rw [hnx] at hbx ⊢; exact IntWalk.i64_in _ hbx
              have Hnx := hd hnx
              have Hz2 := hd hz
              clear hz hAz hnx hbx
              go_wp2
              go_quiet (fail)
              go_wp2
              go_roundw
              case rel => exact ⟨k + 1, by omega, by go_num, ⟨_, rfl⟩⟩
              case measure => simp [intOf]; omega
            · rw [List.getElem?_eq_none (by omega)] at hnx
              simp only [Option.getD_none] at hnx
              have ew : IntKind.i64.wrap (y + 0) = x := by rw [hnx] at hbx ⊢; exact IntWalk.i64_in _ hbx
              have ew2 : IntKind.i64.wrap y = x := by rw [Int.add_zero] at ew; exact ew
              have ey : (x != y) = false := by rw [hnx]; simp
              have Hnx := hd hnx
              clear hnx hbx
              go_wp2
              go_quiet (fail)
              go_wp2
              go_roundw
              case rel => exact ⟨k + 1, by omega, by go_num, ⟨_, rfl⟩⟩
              case measure => simp [intOf]; omega
          · have hle : ((r.length : Int) == q.length) = true := by rw [Hlr.out]; simp
            go_wp2
            go_ret
            exact ⟨rfl, below_drewN k5 _⟩

end Go.Proofs.Ythoodhdcmckkpaa
