/- The walk of the exact law of interpolation: the law returns true, whatever the input. -/
import Derived.Test.YthoodhdcmckkpaaLawB
import Derived.Test.YthoodhdcmckkpaaSpecI
import Derived.Test.YthoodhdcmckkpaaDrawB
namespace Go.Proofs.Ythoodhdcmckkpaa
open Go.RowKit

theorem interP_len (p : List Int) : ((interP p).getD []).length ≤ 7 := by
  cases h : interP p with
  | none => simp
  | some q => exact (validP_iff.1 (interP_some h).2.1).2.1

set_option maxHeartbeats 1600000 in
theorem ExactInterpolate_walk (A : Option Addr) (c : Nat) (p : List Int) (w : World) (h : SI w A p) (hbig : p.length ≤ 1048576) :
    Calls Try.prog 8 #[.slice A p.length c] w fun e w' => e = .returned (.bool true) ∧ Below w.heap.size w w' := by
  have Hh := hd h
  clear h
  obtain ⟨z, ok, Hz⟩ : ∃ z ok, Hid ((interP p).getD [] = z ∧ (interP p).isSome = ok) := ⟨_, _, hd ⟨rfl, rfl⟩⟩
  go_enter Try.func8, Try.ntmps8
  go_wp2_with fail
  refine (toIntS_any A c p _ Hh.out hbig).mono ?_
  rintro e w1 ⟨A1, c1, rfl, own1, b1⟩
  have s1 := hd own1.si
  have hcap1 := own1.cap
  clear own1
  go_wp2_with fail
  refine (sInterpolate_any A1 c1 p _ s1.out hcap1).mono ?_
  rintro e w2 ⟨A2, c2, rfl, own2, b2⟩
  rw [Hz.out.1] at own2
  simp only [Hz.out.1, Hz.out.2]
  have u2 := hd own2.u
  have k2 := b1.trans (b2.mono b1.size)
  clear own2 b2
  go_wp2_with fail
  refine (toIntS_any A c p _ (Hh.out.below k2) hbig).mono ?_
  rintro e w3 ⟨A3, c3, rfl, own3, b3⟩
  have s3 := hd own3.si
  have hcap3 := own3.cap
  have u3 := hd own3.u
  have u2 := hd (u2.out.below b3)
  have k3 := k2.trans (b3.mono k2.size)
  clear own3
  go_wp2_with fail
  refine (Interpolate_any A3 c3 p _ u3.out.1.si hcap3).mono ?_
  rintro e w4 ⟨A4, c4, rfl, own4, b4⟩
  rw [Hz.out.1] at own4
  simp only [Hz.out.1, Hz.out.2]
  have u4 := hd own4.u
  have u2 := hd (u2.out.below b4)
  have u3 := hd (u3.out.below b4)
  have k4 := k3.trans (b4.mono k3.size)
  clear own4
  go_wp2_with fail
  refine (eqIntS_any A4 A2 c4 c2 z z _ u4.out.1.si u2.out.1.si).mono ?_
  rintro e w5 ⟨rfl, b5⟩
  simp only [decide_true]
  have u2 := hd (u2.out.below b5)
  have u3 := hd (u3.out.below b5)
  have u4 := hd (u4.out.below b5)
  have k5 := k4.trans (b5.mono k4.size)
  go_wp2_with fail
  refine (toIntS_any A c p _ (Hh.out.below k5) hbig).mono ?_
  rintro e w6 ⟨A6, c6, rfl, own6, b6⟩
  have s6 := hd own6.si
  have u2 := hd (u2.out.below b6)
  have u3 := hd (u3.out.below b6)
  have u4 := hd (u4.out.below b6)
  have k6 := k5.trans (b6.mono k5.size)
  clear own6
  go_wp2_with fail
  refine (eqIntS_any A3 A6 c3 c6 p p _ u3.out.1.si s6.out).mono ?_
  rintro e w7 ⟨rfl, b7⟩
  simp only [decide_true]
  have u2 := hd (u2.out.below b7)
  have u3 := hd (u3.out.below b7)
  have u4 := hd (u4.out.below b7)
  have k7 := k6.trans (b7.mono k6.size)
  have q1 := b1.size
  have q2 := k2.size
  have q3 := b3.size
  have q4 := b4.size
  go_wp2_with fail
  refine (markIntS_any _ A3 c3 p 1 _ u3.out.1 hbig (by decide) (by decide)).mono ?_
  rintro e w8 ⟨rfl, own8, g8⟩
  have u2 := hd (u2.out.other u3.out g8 (.inl (Nat.le_refl _)))
  have u4 := hd (u4.out.other u3.out g8 (.inr (Nat.le_refl _)))
  have k8 := k7.trans (u3.out.below_of g8 k2.size k7.size)
  have hz1 : 0 ≤ (1 : Int) + p.length := by omega
  clear own8 g8
  go_wp2_with fail
  refine (eqIntS_any A4 A2 c4 c2 z z _ u4.out.1.si u2.out.1.si).mono ?_
  rintro e w9 ⟨rfl, b9⟩
  simp only [decide_true]
  have u2 := hd (u2.out.below b9)
  have u4 := hd (u4.out.below b9)
  have k9 := k8.trans (b9.mono k8.size)
  have hzl : Hid (z.length ≤ 1048576) := hd (by rw [← Hz.out.1]; have := interP_len p; omega)
  go_wp2_with fail
  refine (markIntS_any _ A4 c4 z 1 _ u4.out.1 hzl.out (by decide) (by decide)).mono ?_
  rintro e w10 ⟨rfl, own10, g10⟩
  have u2 := hd (u2.out.other u4.out g10 (.inl (by omega)))
  have k10 := k9.trans (u4.out.below_of g10 k3.size k9.size)
  have u4 := hd (u4.out.marked own10)
  have s4 : Hid (SI w10 A4 (marks 1 z.length)) := hd own10.si
  have hz2 : 0 ≤ (1 : Int) + z.length := by omega
  clear own10 g10
  go_wp2_with fail
  refine (heldIntS_any z.length A4 c4 1 _ s4.out hzl.out (by decide) (by decide)).mono ?_
  rintro e w11 ⟨rfl, rfl⟩
  go_wp2_with fail
  refine (toIntS_any A c p _ (Hh.out.below k10) hbig).mono ?_
  rintro e w12 ⟨A12, c12, rfl, own12, b12⟩
  have s12 := hd own12.si
  have hcap12 := own12.cap
  have u2 := hd (u2.out.below b12)
  have s4 := hd (s4.out.below b12)
  have k12 := k10.trans (b12.mono k10.size)
  clear own12
  go_wp2_with fail
  refine (Interpolate_any A12 c12 p _ s12.out hcap12).mono ?_
  rintro e w13 ⟨A13, c13, rfl, own13, b13⟩
  rw [Hz.out.1] at own13
  simp only [Hz.out.1, Hz.out.2]
  have s13 := hd own13.si
  have u2 := hd (u2.out.below b13)
  have s4 := hd (s4.out.below b13)
  have k13 := k12.trans (b13.mono k12.size)
  clear own13
  go_wp2_with fail
  refine (eqIntS_any A13 A2 c13 c2 z z _ s13.out u2.out.1.si).mono ?_
  rintro e w14 ⟨rfl, b14⟩
  simp only [decide_true]
  have s4 := hd (s4.out.below b14)
  have k14 := k13.trans (b14.mono k13.size)
  go_wp2_with fail
  refine (heldIntS_any z.length A4 c4 1 _ s4.out hzl.out (by decide) (by decide)).mono ?_
  rintro e w15 ⟨rfl, rfl⟩
  go_wp2
  go_ret
  exact ⟨rfl, k14⟩

theorem ExactInterpolate_big (A : Option Addr) (c n : Nat) (w : World) (h1 : 1048576 < n) (h2 : n ≤ 9223372036854775807) :
    Calls Try.prog 8 #[.slice A n c] w fun e w' => e = .returned (.bool true) ∧ Below w.heap.size w w' := by
  have hbig' : (1048576 : Int) < n := by omega
  go_enter Try.func8, Try.ntmps8
  go_wp2
  go_ret
  exact ⟨rfl, Below.refl _ _⟩

end Go.Proofs.Ythoodhdcmckkpaa
