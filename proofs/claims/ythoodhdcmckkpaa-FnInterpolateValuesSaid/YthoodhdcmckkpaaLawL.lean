/- The walk of the law on interpolation: it returns true, whatever the draw. -/
import Derived.Test.YthoodhdcmckkpaaLawK
import Derived.Test.YthoodhdcmckkpaaPolyH
namespace Go.Proofs.Ythoodhdcmckkpaa
open Go.RowKit

theorem InterpolateValues_big (A : Option Addr) (c n : Nat) (w : World) (h1 : 1048576 < n) (h2 : n ≤ 9223372036854775807) :
    Calls Try.prog 17 #[.slice A n c] w fun e w' => e = .returned (.bool true) ∧ Below w.heap.size w w' := by
  have hbig' : (1048576 : Int) < n := by omega
  go_enter Try.func17, Try.ntmps17
  go_wp2
  go_ret
  exact ⟨rfl, Below.refl _ _⟩

set_option maxHeartbeats 4000000 in
theorem InterpolateValues_walk (A : Option Addr) (c : Nat) (zs : List Int) (w : World) (h : SR w A (zs.map (Value.int .u8))) (hbig : zs.length ≤ 1048576) (hcap : zs.length ≤ c) (hx : ∀ x ∈ zs, 0 ≤ x ∧ x ≤ 255) :
    Calls Try.prog 17 #[.slice A zs.length c] w fun e w' => e = .returned (.bool true) ∧ Below w.heap.size w w' := by
  have H := hd h
  have Hx := hd hx
  clear h hx
  go_enter Try.func17, Try.ntmps17
  go_wp2_with fail
  refine (DrawValuesOf_any A c zs _ H.out hcap Hx.out).mono ?_
  rintro e w1 ⟨A1, c1, p, v, u, rfl, hp8, own, hcap1, k1, hv, hu⟩
  have Pp := hd own
  clear own
  obtain ⟨hv1, hv2⟩ := hv
  obtain ⟨hu1, hu2⟩ := hu
  obtain ⟨s, os, Hs0⟩ : ∃ z o, Hid ((valsP p v u).getD [] = z ∧ (valsP p v u).isSome = o) := ⟨_, _, hd ⟨rfl, rfl⟩⟩
  go_wp2_with fail
  refine (ValuesOf_any A1 c1 p v u _ Pp.out.si).mono ?_
  rintro e w2 ⟨A2, c2, rfl, own, bb⟩
  simp only [Hs0.out.1, Hs0.out.2] at own ⊢
  have Pp := hd (Pp.out.below bb)
  have k2 := k1.trans (bb.mono k1.size)
  have Ss := hd own
  clear own bb
  go_wp2_with fail
  refine (sValuesOf_any A1 c1 p v u _ Pp.out.si).mono ?_
  rintro e w3 ⟨A3, c3, rfl, own, bb⟩
  simp only [Hs0.out.1, Hs0.out.2] at own ⊢
  have Pp := hd (Pp.out.below bb)
  have Ss := hd (Ss.out.below bb)
  have k3 := k2.trans (bb.mono k2.size)
  have Sw := hd own
  clear own bb
  go_wp2_with fail
  refine (deInts_any A2 A3 c2 c3 s s _ Ss.out.si Sw.out.si).mono ?_
  rintro e w4 ⟨rfl, bb⟩
  simp only [decide_true]
  have Pp := hd (Pp.out.below bb)
  have Ss := hd (Ss.out.below bb)
  have Sw := hd (Sw.out.below bb)
  have k4 := k3.trans (bb.mono k3.size)
  clear bb
  cases hs : valsP p v u with
  | none =>
    have ho : os = false := by rw [← Hs0.out.2, hs]; rfl
    subst ho
    clear hs
    go_wp2_with fail
    refine (deInts_any A2 A3 c2 c3 s s _ Ss.out.si Sw.out.si).mono ?_
    rintro e w5 ⟨rfl, bb⟩
    simp only [decide_true]
    have k5 := k4.trans (bb.mono k4.size)
    clear bb
    go_wp2
    go_ret
    exact ⟨rfl, k5⟩
  | some s' =>
    have ho : os = true := by rw [← Hs0.out.2, hs]; rfl
    have hz : s' = s := by rw [← Hs0.out.1, hs]; rfl
    rw [hz] at hs
    subst ho
    have Hs := hd (valsP_some hs)
    clear hs hz
    obtain ⟨hu0, hu60⟩ := Hs.out.2.2.1
    by_cases hcnt : u < p.length
    · go_wp2_with fail
      refine (deInts_any A2 A3 c2 c3 s s _ Ss.out.si Sw.out.si).mono ?_
      rintro e w5 ⟨rfl, bb⟩
      simp only [decide_true]
      have k5 := k4.trans (bb.mono k4.size)
      clear bb
      go_wp2
      go_ret
      exact ⟨rfl, k5⟩
    cases ht : tabV s
    · have Ht := hd ht
      clear ht
      go_wp2_with fail
      refine (TableValid_t A2 c2 s false _ Ss.out.si Ht.out).mono ?_
      rintro e w' ⟨rfl, rfl⟩
      go_wp2_with fail
      refine (deInts_any A2 A3 c2 c3 s s _ Ss.out.si Sw.out.si).mono ?_
      rintro e w5 ⟨rfl, bb⟩
      simp only [decide_true]
      have k5 := k4.trans (bb.mono k4.size)
      clear bb
      go_wp2
      go_ret
      exact ⟨rfl, k5⟩
    · have Ht := hd ht
      have Hiv : Hid ((interP s = none → shiftP p v = none) ∧ ∀ q t, interP s = some q → shiftP p v = some t → trimP t = q) := hd (by
        have he := Hs.out.2.2.2.2.1
        rw [he]
        exact inter_vals Hs.out.1 (by omega) Hs.out.2.1 (by rw [← he]; exact ht))
      clear ht
      have Hcs := hd Ss.out.cap
      obtain ⟨q, oq, Hq0⟩ : ∃ z o, Hid ((interP s).getD [] = z ∧ (interP s).isSome = o) := ⟨_, _, hd ⟨rfl, rfl⟩⟩
      obtain ⟨t, ot, Ht0⟩ : ∃ z o, Hid ((shiftP p v).getD [] = z ∧ (shiftP p v).isSome = o) := ⟨_, _, hd ⟨rfl, rfl⟩⟩
      have Hcase : Hid ((oq = false → ot = false) ∧ (oq = true → ot = true → trimP t = q)) := hd (by
        have h1 := Hiv.out.1
        have h2 := Hiv.out.2
        have h3 := Hq0.out
        have h4 := Ht0.out
        constructor
        · intro h
          rw [h] at h3
          have : interP s = none := by simpa using h3.2
          have := h1 this
          rw [this] at h4
          exact h4.2.symm
        · intro h h'
          rw [h] at h3
          rw [h'] at h4
          obtain ⟨x, hx⟩ := Option.isSome_iff_exists.1 h3.2
          obtain ⟨y, hy⟩ := Option.isSome_iff_exists.1 h4.2
          have h5 := h2 x y hx hy
          rw [hx] at h3
          rw [hy] at h4
          have e1 : x = q := h3.1
          have e2 : y = t := h4.1
          rw [← e1, ← e2]; exact h5)
      go_wp2_with fail
      refine (TableValid_t A2 c2 s true _ Ss.out.si Ht.out).mono ?_
      rintro e w' ⟨rfl, rfl⟩
      go_wp2_with fail
      refine (Interpolate_any A2 c2 s _ Ss.out.si Hcs.out).mono ?_
      rintro e w5 ⟨A5, c5, rfl, own, bb⟩
      simp only [Hq0.out.1, Hq0.out.2] at own ⊢
      have Pp := hd (Pp.out.below bb)
      have k5 := k4.trans (bb.mono k4.size)
      have Qq := hd own
      clear own bb
      go_wp2_with fail
      refine (ShiftPoly_any A1 c1 p v _ Pp.out.si hcap1).mono ?_
      rintro e w6 ⟨A6, c6, rfl, own, bb⟩
      simp only [Ht0.out.1, Ht0.out.2] at own ⊢
      have Qq := hd (Qq.out.below bb)
      have k6 := k5.trans (bb.mono k5.size)
      have Tt := hd own
      have Hct := hd own.cap
      clear own bb
      cases oq with
      | false =>
        have ho := Hcase.out.1 rfl
        subst ho
        go_wp2
        go_ret
        exact ⟨rfl, k6⟩
      | true =>
        cases ot with
        | false =>
          go_wp2
          go_ret
          exact ⟨rfl, k6⟩
        | true =>
          have Htr := hd (Hcase.out.2 rfl rfl)
          go_wp2_with fail
          refine (TrimPoly_q A6 c6 t q _ Tt.out.si Hct.out Htr.out).mono ?_
          rintro e w7 ⟨A7, c7, rfl, own, bb⟩
          have Qq := hd (Qq.out.below bb)
          have k7 := k6.trans (bb.mono k6.size)
          have Uu := hd own
          clear own bb
          go_wp2_with fail
          refine (deInts_any A5 A7 c5 c7 q q _ Qq.out.si Uu.out.si).mono ?_
          rintro e w8 ⟨rfl, bb⟩
          simp only [decide_true]
          have k8 := k7.trans (bb.mono k7.size)
          clear bb
          go_wp2
          go_ret
          exact ⟨rfl, k8⟩

end Go.Proofs.Ythoodhdcmckkpaa
