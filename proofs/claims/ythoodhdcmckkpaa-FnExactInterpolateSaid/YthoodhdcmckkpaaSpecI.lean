/- Contracts of the reference's functions on tables: least degree, interpolation. -/
import Derived.Test.YthoodhdcmckkpaaSpecE
import Derived.Test.YthoodhdcmckkpaaPolyG
namespace Go.Proofs.Ythoodhdcmckkpaa
open Go.RowKit

theorem sTableValid_any (A : Option Addr) (c : Nat) (p : List Int) (w : World) (h : SI w A p) :
    Calls Try.prog 97 #[.slice A p.length c] w fun e w' => e = .returned (.bool (tabV p)) ∧ w = w' := by
  have hl := h.len
  have Hh := hd h
  clear h
  go_enter Try.func97, Try.ntmps97
  go_wp2
  go_loop [3] (fun i => ∃ k : Nat, k ≤ p.length ∧ i = .int .i64 k ∧ (p.take k).all (fun x => inB x 1000000000) = true) (fun i => p.length - (intOf i).toNat)
  case atStart => exact ⟨0, by omega, rfl, by simp⟩
  case round =>
    obtain ⟨k, hk, rfl, ht⟩ := hrel
    have Ht := hd ht
    clear ht
    by_cases hlt : k < p.length
    · obtain ⟨x, b0, off, hx, rfl, hbw, hc⟩ := Hh.out.at_ hlt
      have Hx := hd hx
      clear hx
      by_cases hin : in2 x (-1000000000) 1000000000 = true
      · go_wp2_with (go_at_call 80; refine (l1In_any x (-1000000000) 1000000000 _).mono ?_; rintro e w' ⟨rfl, rfl⟩)
        go_round
        case rel => exact ⟨k + 1, by omega, by go_num, all_take_succ _ _ _ _ Hx.out Ht.out hin⟩
        case measure => simp [intOf]; omega
      · have hin' : in2 x (-1000000000) 1000000000 = false := by simpa using hin
        clear hin
        have Hf : Hid (tabV p = false) := hd (by
          have := all_false_of (fun x => inB x 1000000000) p k x Hx.out hin'
          simp [tabV, allB, this])
        go_wp2_with (go_at_call 80; refine (l1In_any x (-1000000000) 1000000000 _).mono ?_; rintro e w' ⟨rfl, rfl⟩)
        go_ret
        exact ⟨ret_bool Hf.out.symm, rfl⟩
    · have hke : k = p.length := by omega
      have Hf : Hid (tabV p = in2 p.length 1 60) := hd (by
        have := Ht.out
        rw [hke, List.take_length] at this
        have h2 : allB p 1000000000 = true := this
        rw [Bool.eq_iff_iff]
        simp [tabV, h2, in2]
        omega)
      clear hke
      go_wp2_with (go_at_call 80; refine (l1In_any p.length 1 60 _).mono ?_; rintro e w' ⟨rfl, rfl⟩)
      go_ret
      exact ⟨ret_bool Hf.out.symm, rfl⟩

theorem l2Zero_any (A : Option Addr) (c : Nat) (p : List Int) (w : World) (h : SI w A p) :
    Calls Try.prog 98 #[.slice A p.length c] w fun e w' => e = .returned (.bool (allB p 0)) ∧ w = w' := by
  have hl := h.len
  have Hh := hd h
  clear h
  go_enter Try.func98, Try.ntmps98
  go_wp2
  go_loop [3] (fun i => ∃ k : Nat, k ≤ p.length ∧ i = .int .i64 k ∧ (p.take k).all (fun x => inB x 0) = true) (fun i => p.length - (intOf i).toNat)
  case atStart => exact ⟨0, by omega, rfl, by simp⟩
  case round =>
    obtain ⟨k, hk, rfl, ht⟩ := hrel
    have Ht := hd ht
    clear ht
    by_cases hlt : k < p.length
    · obtain ⟨x, b0, off, hx, rfl, hbw, hc⟩ := Hh.out.at_ hlt
      have Hx := hd hx
      clear hx
      by_cases hin : x = 0
      · subst hin
        have Hz := hd (all_take_succ (fun x => inB x 0) p k 0 Hx.out Ht.out (by decide))
        go_wp2
        go_round
        case rel => exact ⟨k + 1, by omega, by go_num, Hz.out⟩
        case measure => simp [intOf]; omega
      · have hin' : (x != 0) = true := by simpa using hin
        have Hf : Hid (allB p 0 = false) := hd (all_false_of (fun x => inB x 0) p k x Hx.out (by simp [inB]; omega))
        clear hin
        go_wp2
        go_ret
        exact ⟨ret_bool Hf.out.symm, rfl⟩
    · have hke : k = p.length := by omega
      have Hf : Hid (allB p 0 = true) := hd (by
        have := Ht.out
        rw [hke, List.take_length] at this
        exact this)
      clear hke
      go_wp2
      go_ret
      exact ⟨ret_bool Hf.out.symm, rfl⟩

theorem sTableValid_t (A : Option Addr) (c : Nat) (p : List Int) (t : Bool) (w : World) (h : SI w A p) (ht : tabV p = t) :
    Calls Try.prog 97 #[.slice A p.length c] w fun e w' => e = .returned (.bool t) ∧ w = w' := by
  subst ht; exact sTableValid_any A c p w h
theorem l2Zero_b (b : Bool) (n : Nat) (A : Option Addr) (c : Nat) (p : List Int) (w : World) (hn : p.length = n) (h : SI w A p) (hb : allB p 0 = b) :
    Calls Try.prog 98 #[.slice A n c] w fun e w' => e = .returned (.bool b) ∧ w = w' := by
  subst hn hb; exact l2Zero_any A c p w h

set_option maxHeartbeats 800000 in
theorem sLeastDegree_any (A : Option Addr) (c : Nat) (zs : List Int) (w : World) (h : SI w A zs) :
    Calls Try.prog 70 #[.slice A zs.length c] w fun e w' => RetZ w (ldeg zs) e w' := by
  have Hh := hd h
  clear h
  cases hv : tabV zs
  · have Hf : Hid (ldeg zs = -2) := hd (by simp [ldeg, hv])
    go_enter Try.func70, Try.ntmps70
    go_wp2_with (go_at_call 97; refine (sTableValid_t A c zs false _ Hh.out hv).mono ?_; rintro e w' ⟨rfl, rfl⟩)
    go_ret
    exact ⟨ret_int Hf.out.symm, Below.refl _ _⟩
  · have Hv := hd hv
    have Hl60 : Hid (zs.length ≤ 60) := hd (tabV_iff.1 hv).2.1
    clear hv
    go_enter Try.func70, Try.ntmps70
    go_wp2_with (go_at_call 97; refine (sTableValid_t A c zs true _ Hh.out Hv.out).mono ?_; rintro e w' ⟨rfl, rfl⟩)
    go_loopw [3, 4] (fun row k wr => ∃ (m : Int) (j : Nat) (A' : Option Addr) (c' : Nat), -1 ≤ m ∧ m ≤ 6 ∧ (m + 1).toNat = j ∧ k = .int .i64 m ∧ row = .slice A' (nbrs j zs).length c' ∧ SI wr A' (nbrs j zs) ∧ j + zc (8 - j) (nbrs j zs) = zc 8 zs ∧ Below w.heap.size w wr)
      (fun _ k _ => (7 - intOf k).toNat)
    case atStart => exact ⟨-1, 0, A, c, by omega, by omega, rfl, rfl, rfl, Hh.out, by rw [Nat.zero_add]; rfl, Below.refl _ _⟩
    case round =>
      obtain ⟨m, j, A', c', hm1, hm2, hj, rfl, rfl, hs, hz, hbel⟩ := hrel
      have Hs := hd hs
      have Hz := hd hz
      have Hj := hd hj
      have Hbel := hd hbel
      have Hln : Hid ((nbrs j zs).length ≤ 1000) := hd (by rw [nbrs_length]; have := Hl60.out; omega)
      clear hs hz hj hbel
      obtain ⟨n, hn⟩ : ∃ n, Hid (8 - j = n + 1) := ⟨7 - j, hd (by have := Hj.out; omega)⟩
      have Hz' : Hid (j + zc (n + 1) (nbrs j zs) = zc 8 zs) := hd (by rw [← hn.out]; exact Hz.out)
      by_cases hlt : m < 6
      · cases hb : allB (nbrs j zs) 0
        · have Hst := hd (zc_step hb Hz'.out)
          have Hb := hd hb
          have HB := hd (nbrs_tbd Hv.out j (by have := Hj.out; omega))
          clear hb
          go_wp2_with fail
          refine (l2Zero_b false _ A' c' (nbrs j zs) _ rfl Hs.out Hb.out).mono ?_
          rintro e w' ⟨rfl, rfl⟩
          go_wp2_with fail
          refine (l2Next_any A' c' (nbrs j zs) _ Hs.out Hln.out HB.out).mono ?_
          rintro e w3 ⟨A3, c3, rfl, own3, bel3⟩
          have S3 : Hid (SI w3 A3 (nbrs (j + 1) zs)) := hd own3.si
          have B3 := hd (Hbel.out.trans (bel3.mono Hbel.out.size))
          clear own3 bel3
          go_wp2
          go_roundw
          case rel => exact ⟨m + 1, j + 1, A3, c3, by omega, by omega, by have := Hj.out; omega, by go_num, rfl, S3.out, by rw [show 8 - (j + 1) = n by have := hn.out; omega]; exact Hst.out, B3.out⟩
          case measure => simp [intOf]; omega
        · have Hst := hd (zc_stop hb Hz'.out)
          have Hf : Hid (ldeg zs = m) := hd (by rw [ldeg, if_pos Hv.out, Hst.out]; have := Hj.out; omega)
          have Hb := hd hb
          clear hb
          go_wp2_with fail
          refine (l2Zero_b true _ A' c' (nbrs j zs) _ rfl Hs.out Hb.out).mono ?_
          rintro e w' ⟨rfl, rfl⟩
          go_wp2
          go_ret
          exact ⟨ret_int Hf.out.symm, Hbel.out⟩
      · obtain rfl : m = 6 := by omega
        cases hb : allB (nbrs j zs) 0
        · have Hst := hd (zc_step hb Hz'.out)
          have Hf : Hid (ldeg zs = 7) := hd (by
            have h1 := Hj.out
            have h2 := Hst.out
            have h3 := hn.out
            obtain rfl : n = 0 := by omega
            rw [ldeg, if_pos Hv.out, ← h2, zc]
            omega)
          have Hb := hd hb
          clear hb
          go_wp2_with fail
          refine (l2Zero_b false _ A' c' (nbrs j zs) _ rfl Hs.out Hb.out).mono ?_
          rintro e w' ⟨rfl, rfl⟩
          go_wp2
          go_ret
          exact ⟨ret_int Hf.out.symm, Hbel.out⟩
        · have Hst := hd (zc_stop hb Hz'.out)
          have Hf : Hid (ldeg zs = 6) := hd (by rw [ldeg, if_pos Hv.out, Hst.out]; have := Hj.out; omega)
          have Hb := hd hb
          clear hb
          go_wp2_with fail
          refine (l2Zero_b true _ A' c' (nbrs j zs) _ rfl Hs.out Hb.out).mono ?_
          rintro e w' ⟨rfl, rfl⟩
          go_wp2
          go_ret
          exact ⟨ret_int Hf.out.symm, Hbel.out⟩

theorem sLeastDegree_d (A : Option Addr) (c : Nat) (zs : List Int) (d : Int) (w : World) (h : SI w A zs) (hd' : ldeg zs = d) :
    Calls Try.prog 70 #[.slice A zs.length c] w fun e w' => RetZ w d e w' := by
  subst hd'; exact sLeastDegree_any A c zs w h

set_option maxHeartbeats 800000 in
theorem sInterpolate_any (A : Option Addr) (c : Nat) (zs : List Int) (w : World) (h : SI w A zs) (hcap : zs.length ≤ c) :
    Calls Try.prog 42 #[.slice A zs.length c] w fun e w' => RetO 3 w.heap.size w (interP zs) e w' := by
  have Hh := hd h
  clear h
  cases hv : tabV zs
  · have Hf : Hid (interP zs = none) := hd (by simp [interP, hv])
    have Hd : Hid (ldeg zs = -2) := hd (by simp [ldeg, hv])
    clear hv
    go_enter Try.func42, Try.ntmps42
    go_wp2_with fail
    refine (sLeastDegree_d A c zs (-2) _ Hh.out Hd.out).mono ?_
    rintro e w1 ⟨rfl, b1⟩
    go_wp2_with fail
    refine (l1In_any (-2) (-1) 6 _).mono ?_
    rintro e w' ⟨rfl, rfl⟩
    have hin : in2 (-2) (-1) 6 = false := by decide
    go_wp2
    go_ret2
    exact RetO.lit Hf.out b1
  · obtain ⟨m, Hm⟩ : ∃ m : Nat, Hid (zc 8 zs = m) := ⟨_, hd rfl⟩
    have Hd : Hid (ldeg zs = (m : Int) - 1) := hd (by rw [ldeg, if_pos hv, Hm.out])
    have hm8 : m ≤ 8 := by rw [← Hm.out]; exact zc_le 8 zs
    by_cases h7 : m ≤ 7
    · have hml := zc_len hv (by rw [Hm.out]; exact h7)
      rw [Hm.out] at hml
      have Hf : Hid (interP zs = chk (fd (zs.take (max m 1)))) := hd (by rw [interP, hv, Hm.out]; simp [h7])
      obtain ⟨A1, off1, hA, _⟩ := Hh.out.nonempty (by omega)
      have HB := hd (inter_bd hv (max m 1) (by omega))
      have Htl : Hid ((zs.take (max m 1)).length = max m 1) := hd (by rw [List.length_take]; omega)
      have Htk := hd (Hh.out.take (max m 1))
      have hsl : Hid (zs.length ≤ 60) := hd (tabV_iff.1 hv).2.1
      have H1000 : Hid ((zs.take (max m 1)).length ≤ 1000) := hd (by rw [Htl.out]; omega)
      subst hA
      clear hv
      by_cases hm0 : m = 0
      · subst hm0
        have hin : in2 (-1) (-1) 6 = true := by decide
        go_enter Try.func42, Try.ntmps42
        go_wp2_with fail
        refine (sLeastDegree_d _ c zs (-1) _ Hh.out (by rw [Hd.out]; rfl)).mono ?_
        rintro e w1 ⟨rfl, b1⟩
        have T1 := hd (Htk.out.below b1)
        go_wp2_with fail
        refine (l1In_any (-1) (-1) 6 _).mono ?_
        rintro e w' ⟨rfl, rfl⟩
        go_wp2_with fail
        refine (l2Result_n _ _ _ (zs.take (max 0 1)) _ Htl.out T1.out H1000.out HB.out).mono ?_
        rintro e w2 ⟨A2, c2, rfl, own2, b2⟩
        go_wp2
        go_ret2
        rw [Hf.out]
        exact ⟨A2, c2, rfl, own2.low b1.size, b1.trans (b2.mono b1.size)⟩
      · obtain ⟨k, rfl⟩ : ∃ k, m = k + 1 := ⟨m - 1, by omega⟩
        have Hd' : Hid (ldeg zs = (k : Int)) := hd (by rw [Hd.out]; omega)
        have hmx : max (k + 1) 1 = k + 1 := by omega
        rw [hmx] at Hf Htl Htk HB hml H1000
        clear hmx hm0
        have hin : in2 (k : Int) (-1) 6 = true := by unfold in2; simp; omega
        go_enter Try.func42, Try.ntmps42
        go_wp2_with fail
        refine (sLeastDegree_d _ c zs k _ Hh.out Hd'.out).mono ?_
        rintro e w1 ⟨rfl, b1⟩
        have T1 := hd (Htk.out.below b1)
        go_wp2_with fail
        refine (l1In_any (k : Int) (-1) 6 _).mono ?_
        rintro e w' ⟨rfl, rfl⟩
        go_wp2_with fail
        refine (l2Result_n _ _ _ (zs.take (k + 1)) _ Htl.out T1.out H1000.out HB.out).mono ?_
        rintro e w2 ⟨A2, c2, rfl, own2, b2⟩
        go_wp2
        go_ret2
        rw [Hf.out]
        exact ⟨A2, c2, rfl, own2.low b1.size, b1.trans (b2.mono b1.size)⟩
    · obtain rfl : m = 8 := by omega
      have Hf : Hid (interP zs = none) := hd (by rw [interP, hv, Hm.out]; simp)
      have hin : in2 7 (-1) 6 = false := by decide
      clear hv h7
      go_enter Try.func42, Try.ntmps42
      go_wp2_with fail
      refine (sLeastDegree_d A c zs 7 _ Hh.out Hd.out).mono ?_
      rintro e w1 ⟨rfl, b1⟩
      go_wp2_with fail
      refine (l1In_any 7 (-1) 6 _).mono ?_
      rintro e w' ⟨rfl, rfl⟩
      go_wp2
      go_ret2
      exact RetO.lit Hf.out b1

end Go.Proofs.Ythoodhdcmckkpaa
