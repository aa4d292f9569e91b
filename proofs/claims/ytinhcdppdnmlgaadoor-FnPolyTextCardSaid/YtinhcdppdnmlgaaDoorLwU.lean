/- The walk of the law PolyText: the law returns true, whatever the input. -/
import Derived.Test.YtinhcdppdnmlgaaDoorTxG
import Derived.Test.YtinhcdppdnmlgaaDoorTxH
import Derived.Test.YtinhcdppdnmlgaaDoorLawC
namespace Go.Proofs.YtinhcdppdnmlgaaDoor
open Go.RowKit
set_option maxRecDepth 4000

theorem deInts_u (n m : Nat) (A A' : Option Addr) (c c' : Nat) (xs : List Int) (w : World) (hn : xs.length = n) (hm : xs.length = m) (h : SG (Value.int .i64) w A xs) (h' : SG (Value.int .i64) w A' xs) :
    Calls Tryd.prog 16 #[.slice A n c, .slice A' m c'] w fun e w' => e = .returned (.bool true) ∧ Below w.heap.size w w' := by
  subst hn hm
  exact (deInts_any A A' c c' xs xs w h h').mono fun e w' ⟨he, hw⟩ => ⟨by rw [he]; simp, hw⟩

theorem str_some {t : ByteArray} (h : 1 ≤ t.size) : t.toList.isEmpty = false := by
  rw [ByteArray.toList_eq]
  cases hl : t.data.toList with
  | nil => exfalso; have h2 : t.data.toList.length = t.size := by rw [Array.length_toList]; rfl
           rw [hl] at h2; simp at h2; omega
  | cons a r => rfl
theorem str_some' {t : ByteArray} (h : 1 ≤ t.size) : ¬ t.toList = [] := by
  have := str_some h
  intro e; rw [e] at this; simp at this
theorem str_some'' {t : ByteArray} (h : 1 ≤ t.size) : (t.toList == []) = false := by
  rw [beq_eq_false_iff_ne]; exact str_some' h

theorem PolyText_big0 (A A' : Option Addr) (c c' n m : Nat) (w : World) (h1 : 1048576 < n) (h2 : n ≤ 9223372036854775807) :
    Calls Tryd.prog 4 #[.slice A n c, .slice A' m c'] w fun e w' => e = .returned (.bool true) ∧ Below w.heap.size w w' := by
  have hbig' : (1048576 : Int) < n := by omega
  go_enter Tryd.func4, Tryd.ntmps4
  go_wp2
  go_ret
  exact ⟨rfl, Below.refl _ _⟩
theorem PolyText_big1 (A A' : Option Addr) (c c' n m : Nat) (w : World) (h0 : n ≤ 1048576) (h1 : 1048576 < m) (h2 : m ≤ 9223372036854775807) :
    Calls Tryd.prog 4 #[.slice A n c, .slice A' m c'] w fun e w' => e = .returned (.bool true) ∧ Below w.heap.size w w' := by
  have hbig' : (1048576 : Int) < m := by omega
  have hbig0 : ¬ (1048576 : Int) < n := by omega
  go_enter Tryd.func4, Tryd.ntmps4
  go_wp2
  go_ret
  exact ⟨rfl, Below.refl _ _⟩

set_option maxHeartbeats 8000000 in
theorem PolyText_walk (A : Option Addr) (c : Nat) (zs : List Int) (A' : Option Addr) (c' : Nat) (ys : List Int) (w : World) (h : SR w A (zs.map (Value.int .u8))) (hbig : zs.length ≤ 1048576) (hcap : zs.length ≤ c) (hx : ∀ x ∈ zs, 0 ≤ x ∧ x ≤ 255)
    (h' : SR w A' (ys.map (Value.int .u8))) (hbig2 : ys.length ≤ 1048576) (hcap2 : ys.length ≤ c') (hx2 : ∀ x ∈ ys, 0 ≤ x ∧ x ≤ 255) (hE : Env w) :
    Calls Tryd.prog 4 #[.slice A zs.length c, .slice A' ys.length c'] w fun e w' => e = .returned (.bool true) ∧ Below w.heap.size w w' := by
  have H := hd h
  have Hx := hd hx
  have H2 := hd h'
  have Hx2 := hd hx2
  have HE := hd hE
  have hbig' : ¬ (1048576 : Int) < zs.length := by omega
  have hbig1 : ¬ (1048576 : Int) < ys.length := by omega
  clear h hx h' hx2 hE
  go_enter Tryd.func4, Tryd.ntmps4
  go_wp2_with fail
  refine (DrawFormatPoly_any A c zs _ H.out hcap Hx.out).mono ?_
  rintro e w1 ⟨A1, c1, p, rfl, hp8, own1, hc1, k1⟩
  have L1 := hd own1
  have E1 := hd (HE.out.below k1)
  clear own1
  cases hv : validP p
  · have Hf := hd (fmtP_no hv)
    have HV := hd (fun w h => PolyValid_any A1 c1 p w h)
    rw [hv] at HV
    clear hv
    go_wp2_with fail
    refine (FormatPoly_z A1 c1 _ p ⟨#[]⟩ _ rfl L1.out.si E1.out.1 Hf.out).mono ?_
    rintro e w2 ⟨rfl, b⟩
    have k2 := k1.trans (b.mono k1.size)
    have L2 := hd (L1.out.below b)
    have E2 := hd (HE.out.below k2)
    clear b
    go_wp2_with fail
    refine (sFormatPoly_z A1 c1 _ p ⟨#[]⟩ _ rfl L2.out.si E2.out.1 Hf.out).mono ?_
    rintro e w3 ⟨rfl, b⟩
    have k3 := k2.trans (b.mono k2.size)
    have L3 := hd (L2.out.below b)
    clear b
    go_wp2_with fail
    refine (HV.out _ L3.out.si).mono ?_
    rintro e w4 ⟨rfl, rfl⟩
    go_wp2_with fail
    refine (DrawParsePoly_any A' c' ys _ (H2.out.below k3) hcap2 Hx2.out).mono ?_
    rintro e v1 ⟨s, rfl, hs, b⟩
    have q1 := k3.trans (b.mono k3.size)
    have F1 := hd (HE.out.below q1)
    have hs2 : s.size ≤ 1048576 := by omega
    clear b
    cases hq : polyF s with
    | none =>
      obtain ⟨z, hz⟩ : ∃ z : List Int, z = [] := ⟨_, rfl⟩
      have Hz : Hid ((polyF s).getD [] = z ∧ (polyF s).isSome = false) := hd (by rw [hq, hz]; exact ⟨rfl, rfl⟩)
      clear hq hz
      go_wp2_with fail
      refine (ParsePoly_z s z false _ hs2 F1.out Hz.out).mono ?_
      rintro e v2 ⟨B2, d2, rfl, own2, b⟩
      have M2 := hd own2
      have q2 := q1.trans (b.mono q1.size)
      have F2 := hd (HE.out.below q2)
      clear own2 b
      go_wp2_with fail
      refine (sParsePoly_z s z false _ hs2 F2.out Hz.out).mono ?_
      rintro e v3 ⟨B3, d3, rfl, own3, b⟩
      have M3 := hd own3
      have M2 := hd (M2.out.below b)
      have q3 := q2.trans (b.mono q2.size)
      clear own3 b
      go_wp2_with fail
      refine (deInts_u _ _ B2 B3 d2 d3 z _ rfl rfl M2.out.sg M3.out.sg).mono ?_
      rintro e v4 ⟨rfl, b⟩
      have M2 := hd (M2.out.below b)
      have q4 := q3.trans (b.mono q3.size)
      have F4 := hd (HE.out.below q4)
      clear b
      go_wp2
      go_ret
      exact ⟨rfl, q4⟩
    | some q =>
      have Hz : Hid ((polyF s).getD [] = q ∧ (polyF s).isSome = true) := hd (by rw [hq]; exact ⟨rfl, rfl⟩)
      have Hfs : Hid (fmtP q = s) := hd (by rw [fmtP_yes (polyF_is hq).1]; exact (polyF_is hq).2)
      clear hq
      go_wp2_with fail
      refine (ParsePoly_z s q true _ hs2 F1.out Hz.out).mono ?_
      rintro e v2 ⟨B2, d2, rfl, own2, b⟩
      have M2 := hd own2
      have q2 := q1.trans (b.mono q1.size)
      have F2 := hd (HE.out.below q2)
      clear own2 b
      go_wp2_with fail
      refine (sParsePoly_z s q true _ hs2 F2.out Hz.out).mono ?_
      rintro e v3 ⟨B3, d3, rfl, own3, b⟩
      have M3 := hd own3
      have M2 := hd (M2.out.below b)
      have q3 := q2.trans (b.mono q2.size)
      clear own3 b
      go_wp2_with fail
      refine (deInts_u _ _ B2 B3 d2 d3 q _ rfl rfl M2.out.sg M3.out.sg).mono ?_
      rintro e v4 ⟨rfl, b⟩
      have M2 := hd (M2.out.below b)
      have q4 := q3.trans (b.mono q3.size)
      have F4 := hd (HE.out.below q4)
      clear b
      go_wp2_with fail
      refine (FormatPoly_z B2 d2 _ q s _ rfl M2.out.sg F4.out.1 Hfs.out).mono ?_
      rintro e v5 ⟨rfl, b⟩
      have q5 := q4.trans (b.mono q4.size)
      clear b
      go_wp2
      go_ret
      exact ⟨rfl, q5⟩
  · have Hf0 := hd (fmtP_yes hv)
    have hp1 := (validP_iff.1 hv).1
    have hm := Mid.of hv
    obtain ⟨t, Ht⟩ : ∃ t, Hid (numsB p = t) := ⟨_, hd rfl⟩
    have Hf : Hid (fmtP p = t) := hd (by rw [Hf0.out, Ht.out])
    have Hpt : Hid ((polyF t).getD [] = p ∧ (polyF t).isSome = true) := hd (by rw [polyF_some ⟨hv, Ht.out⟩]; exact ⟨rfl, rfl⟩)
    have htp : 1 ≤ t.size := by rw [← Ht.out]; exact numsB_pos hp1
    have htz : t.size ≤ 1048576 := by have := numsB_size hm; rw [Ht.out] at this; omega
    have hne1 := str_some htp
    have hne2 := str_some' htp
    have hne3 := str_some'' htp
    have HV := hd (fun w h => PolyValid_any A1 c1 p w h)
    rw [hv] at HV
    clear hv hm
    go_wp2_with fail
    refine (FormatPoly_z A1 c1 _ p t _ rfl L1.out.si E1.out.1 Hf.out).mono ?_
    rintro e w2 ⟨rfl, b⟩
    have k2 := k1.trans (b.mono k1.size)
    have L2 := hd (L1.out.below b)
    have E2 := hd (HE.out.below k2)
    clear b
    go_wp2_with fail
    refine (sFormatPoly_z A1 c1 _ p t _ rfl L2.out.si E2.out.1 Hf.out).mono ?_
    rintro e w3 ⟨rfl, b⟩
    have k3 := k2.trans (b.mono k2.size)
    have L3 := hd (L2.out.below b)
    have E3 := hd (HE.out.below k3)
    clear b
    go_wp2_with fail
    refine (HV.out _ L3.out.si).mono ?_
    rintro e w4 ⟨rfl, rfl⟩
    go_wp2_with fail
    refine (ParsePoly_z t p true _ htz E3.out Hpt.out).mono ?_
    rintro e w5 ⟨B5, d5, rfl, own5, b⟩
    have L5 := hd own5
    have L4 := hd (L3.out.below b)
    have k5 := k3.trans (b.mono k3.size)
    clear own5 b
    go_wp2_with fail
    refine (deInts_u _ _ B5 A1 d5 c1 p _ rfl rfl L5.out.sg L4.out.si).mono ?_
    rintro e w6 ⟨rfl, b⟩
    have k6 := k5.trans (b.mono k5.size)
    clear b
    go_wp2_with fail
    refine (DrawParsePoly_any A' c' ys _ (H2.out.below k6) hcap2 Hx2.out).mono ?_
    rintro e v1 ⟨s, rfl, hs, b⟩
    have q1 := k6.trans (b.mono k6.size)
    have F1 := hd (HE.out.below q1)
    have hs2 : s.size ≤ 1048576 := by omega
    clear b
    cases hq : polyF s with
    | none =>
      obtain ⟨z, hz⟩ : ∃ z : List Int, z = [] := ⟨_, rfl⟩
      have Hz : Hid ((polyF s).getD [] = z ∧ (polyF s).isSome = false) := hd (by rw [hq, hz]; exact ⟨rfl, rfl⟩)
      clear hq hz
      go_wp2_with fail
      refine (ParsePoly_z s z false _ hs2 F1.out Hz.out).mono ?_
      rintro e v2 ⟨B2, d2, rfl, own2, b⟩
      have M2 := hd own2
      have q2 := q1.trans (b.mono q1.size)
      have F2 := hd (HE.out.below q2)
      clear own2 b
      go_wp2_with fail
      refine (sParsePoly_z s z false _ hs2 F2.out Hz.out).mono ?_
      rintro e v3 ⟨B3, d3, rfl, own3, b⟩
      have M3 := hd own3
      have M2 := hd (M2.out.below b)
      have q3 := q2.trans (b.mono q2.size)
      clear own3 b
      go_wp2_with fail
      refine (deInts_u _ _ B2 B3 d2 d3 z _ rfl rfl M2.out.sg M3.out.sg).mono ?_
      rintro e v4 ⟨rfl, b⟩
      have M2 := hd (M2.out.below b)
      have q4 := q3.trans (b.mono q3.size)
      have F4 := hd (HE.out.below q4)
      clear b
      go_wp2
      go_ret
      exact ⟨rfl, q4⟩
    | some q =>
      have Hz : Hid ((polyF s).getD [] = q ∧ (polyF s).isSome = true) := hd (by rw [hq]; exact ⟨rfl, rfl⟩)
      have Hfs : Hid (fmtP q = s) := hd (by rw [fmtP_yes (polyF_is hq).1]; exact (polyF_is hq).2)
      clear hq
      go_wp2_with fail
      refine (ParsePoly_z s q true _ hs2 F1.out Hz.out).mono ?_
      rintro e v2 ⟨B2, d2, rfl, own2, b⟩
      have M2 := hd own2
      have q2 := q1.trans (b.mono q1.size)
      have F2 := hd (HE.out.below q2)
      clear own2 b
      go_wp2_with fail
      refine (sParsePoly_z s q true _ hs2 F2.out Hz.out).mono ?_
      rintro e v3 ⟨B3, d3, rfl, own3, b⟩
      have M3 := hd own3
      have M2 := hd (M2.out.below b)
      have q3 := q2.trans (b.mono q2.size)
      clear own3 b
      go_wp2_with fail
      refine (deInts_u _ _ B2 B3 d2 d3 q _ rfl rfl M2.out.sg M3.out.sg).mono ?_
      rintro e v4 ⟨rfl, b⟩
      have M2 := hd (M2.out.below b)
      have q4 := q3.trans (b.mono q3.size)
      have F4 := hd (HE.out.below q4)
      clear b
      go_wp2_with fail
      refine (FormatPoly_z B2 d2 _ q s _ rfl M2.out.sg F4.out.1 Hfs.out).mono ?_
      rintro e v5 ⟨rfl, b⟩
      have q5 := q4.trans (b.mono q4.size)
      clear b
      go_wp2
      go_ret
      exact ⟨rfl, q5⟩

end Go.Proofs.YtinhcdppdnmlgaaDoor
