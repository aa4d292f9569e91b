/- Contracts of the program's functions on tables: least degree, interpolation. -/
import Derived.Test.YthoodhdcmckkpaaPolyE
import Derived.Test.YthoodhdcmckkpaaPureL
namespace Go.Proofs.Ythoodhdcmckkpaa
open Go.RowKit

theorem TableValid_any (A : Option Addr) (c : Nat) (p : List Int) (w : World) (h : SI w A p) :
    Calls Try.prog 67 #[.slice A p.length c] w fun e w' => e = .returned (.bool (tabV p)) ∧ w = w' := by
  have hl := h.len
  have Hh := hd h
  clear h
  by_cases h1 : 1 ≤ p.length
  · by_cases h2 : p.length ≤ 60
    · have Hf : Hid (tabV p = allB p 1000000000) := hd (by simp [tabV, h1, h2])
      go_enter Try.func67, Try.ntmps67
      go_wp2_with (go_at_call 79; refine (allWithin_any A c p 1000000000 _ Hh.out (by decide) (by decide)).mono ?_; rintro e w' ⟨rfl, rfl⟩)
      go_ret
      exact ⟨ret_bool Hf.out.symm, rfl⟩
    · have Hf : Hid (tabV p = false) := hd (by simp [tabV, h2])
      go_enter Try.func67, Try.ntmps67
      go_wp2
      go_ret
      exact ⟨ret_bool Hf.out.symm, rfl⟩
  · have Hf : Hid (tabV p = false) := hd (by simp [tabV, h1])
    go_enter Try.func67, Try.ntmps67
    go_wp2
    go_ret
    exact ⟨ret_bool Hf.out.symm, rfl⟩

theorem TableValid_t (A : Option Addr) (c : Nat) (p : List Int) (t : Bool) (w : World) (h : SI w A p) (ht : tabV p = t) :
    Calls Try.prog 67 #[.slice A p.length c] w fun e w' => e = .returned (.bool t) ∧ w = w' := by
  subst ht; exact TableValid_any A c p w h

theorem nbrs_tbd {zs : List Int} (ht : tabV zs = true) (k : Nat) (hk : k ≤ 8) : ∀ x ∈ nbrs k zs, -2000000000000000000 ≤ x ∧ x ≤ 2000000000000000000 := by
  intro x hx
  have h := nbrs_bd zs 1000000000 (tabV_iff.1 ht).2.2 k x hx
  have hp : (2 : Int) ^ k ≤ 256 := by
    have h2 := Nat.pow_le_pow_right (show 0 < 2 by decide) hk
    have h3 : ((2 ^ k : Nat) : Int) = (2 : Int) ^ k := by push_cast; rfl
    rw [← h3]
    have h4 : (2 : Nat) ^ 8 = 256 := rfl
    omega
  omega

theorem allZero_b (b : Bool) (n : Nat) (A : Option Addr) (c : Nat) (p : List Int) (w : World) (hn : p.length = n) (h : SI w A p) (hb : allB p 0 = b) :
    Calls Try.prog 85 #[.slice A n c] w fun e w' => e = .returned (.bool b) ∧ w = w' := by
  subst hn hb; exact allZero_any A c p w h

/-- The number is returned; nothing that was there before has changed. -/
def RetZ (w : World) (x : Int) (e : Ending) (w' : World) : Prop := e = .returned (.int .i64 x) ∧ Below w.heap.size w w'

set_option maxHeartbeats 800000 in
theorem LeastDegree_any (A : Option Addr) (c : Nat) (zs : List Int) (w : World) (h : SI w A zs) :
    Calls Try.prog 69 #[.slice A zs.length c] w fun e w' => RetZ w (ldeg zs) e w' := by
  have Hh := hd h
  clear h
  cases hv : tabV zs
  · have Hf : Hid (ldeg zs = -2) := hd (by simp [ldeg, hv])
    go_enter Try.func69, Try.ntmps69
    go_wp2_with (go_at_call 67; refine (TableValid_t A c zs false _ Hh.out hv).mono ?_; rintro e w' ⟨rfl, rfl⟩)
    go_ret
    exact ⟨ret_int Hf.out.symm, Below.refl _ _⟩
  · have Hv := hd hv
    clear hv
    go_enter Try.func69, Try.ntmps69
    go_wp2_with (go_at_call 67; refine (TableValid_t A c zs true _ Hh.out Hv.out).mono ?_; rintro e w' ⟨rfl, rfl⟩)
    go_loopw [3, 4] (fun row k wr => ∃ (m : Int) (j : Nat) (A' : Option Addr) (c' : Nat), -1 ≤ m ∧ m ≤ 7 ∧ (m + 1).toNat = j ∧ k = .int .i64 m ∧ row = .slice A' (nbrs j zs).length c' ∧ SI wr A' (nbrs j zs) ∧ j + zc (8 - j) (nbrs j zs) = zc 8 zs ∧ Below w.heap.size w wr)
      (fun _ k _ => (7 - intOf k).toNat)
    case atStart => exact ⟨-1, 0, A, c, by omega, by omega, rfl, rfl, rfl, Hh.out, by rw [Nat.zero_add]; rfl, Below.refl _ _⟩
    case round =>
      obtain ⟨m, j, A', c', hm1, hm2, hj, rfl, rfl, hs, hz, hbel⟩ := hrel
      have Hs := hd hs
      have Hz := hd hz
      have Hj := hd hj
      have Hbel := hd hbel
      clear hs hz hj hbel
      by_cases hlt : m ≤ 6
      · obtain ⟨n, hn⟩ : ∃ n, Hid (8 - j = n + 1) := ⟨7 - j, hd (by have := Hj.out; omega)⟩
        have Hz' : Hid (j + zc (n + 1) (nbrs j zs) = zc 8 zs) := hd (by rw [← hn.out]; exact Hz.out)
        cases hb : allB (nbrs j zs) 0
        · have Hst := hd (zc_step hb Hz'.out)
          have Hb := hd hb
          have HB := hd (nbrs_tbd Hv.out j (by have := Hj.out; omega))
          clear hb
          go_wp2_with fail
          refine (allZero_b false _ A' c' (nbrs j zs) _ rfl Hs.out Hb.out).mono ?_
          rintro e w' ⟨rfl, rfl⟩
          go_wp2_with fail
          refine (neighbors_any A' c' (nbrs j zs) _ Hs.out HB.out).mono ?_
          rintro e w3 ⟨A3, c3, rfl, own3, bel3⟩
          have S3 : Hid (SI w3 A3 (nbrs (j + 1) zs)) := hd own3.si
          have B3 := hd (Hbel.out.trans (bel3.mono Hbel.out.size))
          clear own3 bel3
          go_wp2
          go_roundw
          case rel => exact ⟨m + 1, j + 1, A3, c3, by omega, by omega, by have := Hj.out; omega, by go_num, rfl, S3.out, by rw [show 8 - (j + 1) = n by have := hn.out; omega]; exact Hst.out, B3.out⟩
          case measure => simp [intOf]; omega
        · have Hst := hd (zc_stop hb Hz'.out)
          have Hf : Hid (ldeg zs = m) := hd (by rw [ldeg, if_pos Hv.out, Hst.out]; have := Hj.out; omega)
          have Hb := hd hb
          clear hb
          go_wp2_with fail
          refine (allZero_b true _ A' c' (nbrs j zs) _ rfl Hs.out Hb.out).mono ?_
          rintro e w' ⟨rfl, rfl⟩
          go_wp2
          go_ret
          exact ⟨ret_int Hf.out.symm, Hbel.out⟩
      · have Hf : Hid (ldeg zs = 7) := hd (by
          have h1 := Hj.out
          have h2 := Hz.out
          obtain rfl : j = 8 := by omega
          rw [ldeg, if_pos Hv.out, ← h2]; rfl)
        go_wp2
        go_ret
        exact ⟨ret_int Hf.out.symm, Hbel.out⟩

theorem inter_bd {zs : List Int} (ht : tabV zs = true) (m : Nat) (hm : m ≤ 7) : ∀ k, k < (zs.take m).length → ∀ x ∈ nbrs k (zs.take m), -2000000000000000000 ≤ x ∧ x ≤ 2000000000000000000 :=
  nbrs_small (B := 1000000000) (by decide) (by rw [List.length_take]; omega) (by decide) fun x hx => (tabV_iff.1 ht).2.2 x (List.mem_of_mem_take hx)

theorem zc_len {zs : List Int} (ht : tabV zs = true) (h7 : zc 8 zs ≤ 7) : max (zc 8 zs) 1 ≤ zs.length := by
  have h1 := (tabV_iff.1 ht).1
  rcases Nat.eq_zero_or_pos (zc 8 zs) with h0 | h0
  · omega
  · obtain ⟨m, hm⟩ : ∃ m, zc 8 zs = m + 1 := ⟨zc 8 zs - 1, by omega⟩
    obtain ⟨_, _, _, hl⟩ := zc_lead hm (by omega)
    omega

theorem LeastDegree_d (A : Option Addr) (c : Nat) (zs : List Int) (d : Int) (w : World) (h : SI w A zs) (hd' : ldeg zs = d) :
    Calls Try.prog 69 #[.slice A zs.length c] w fun e w' => RetZ w d e w' := by
  subst hd'; exact LeastDegree_any A c zs w h

set_option maxHeartbeats 800000 in
theorem Interpolate_any (A : Option Addr) (c : Nat) (zs : List Int) (w : World) (h : SI w A zs) (hcap : zs.length ≤ c) :
    Calls Try.prog 43 #[.slice A zs.length c] w fun e w' => RetO 3 w.heap.size w (interP zs) e w' := by
  have Hh := hd h
  clear h
  cases hv : tabV zs
  · have Hf : Hid (interP zs = none) := hd (by simp [interP, hv])
    have Hd : Hid (ldeg zs = -2) := hd (by simp [ldeg, hv])
    clear hv
    go_enter Try.func43, Try.ntmps43
    go_wp2_with fail
    refine (LeastDegree_d A c zs (-2) _ Hh.out Hd.out).mono ?_
    rintro e w1 ⟨rfl, b1⟩
    go_wp2
    go_ret2
    exact RetO.none_ Hf.out b1
  · obtain ⟨m, Hm⟩ : ∃ m : Nat, Hid (zc 8 zs = m) := ⟨_, hd rfl⟩
    have Hd : Hid (ldeg zs = (m : Int) - 1) := hd (by rw [ldeg, if_pos hv, Hm.out])
    have hm8 : m ≤ 8 := by rw [← Hm.out]; exact zc_le 8 zs
    by_cases h7 : m ≤ 7
    · have hml := zc_len hv (by rw [Hm.out]; exact h7)
      rw [Hm.out] at hml
      have Hf : Hid (interP zs = chk (fd (zs.take (max m 1)))) := hd (by rw [interP, hv, Hm.out]; simp [h7])
      obtain ⟨A1, off1, hA, _⟩ := Hh.out.nonempty (by omega)
      have HB := hd (inter_bd hv (max m 1) (by omega))
      have Htl : Hid ((zs.take (max m 1)).length = max m 1) := hd (by rw [List.length_take]; omega)
      have Htk := hd (Hh.out.take (max m 1))
      have hsl : Hid (zs.length ≤ 60) := hd (tabV_iff.1 hv).2.1
      subst hA
      clear hv
      by_cases hm0 : m = 0
      · subst hm0
        go_enter Try.func43, Try.ntmps43
        go_wp2_with fail
        refine (LeastDegree_d _ c zs (-1) _ Hh.out (by rw [Hd.out]; rfl)).mono ?_
        rintro e w1 ⟨rfl, b1⟩
        have T1 := hd (Htk.out.below b1)
        go_wp2_with fail
        refine (firstDifferences_n _ _ _ (zs.take (max 0 1)) _ Htl.out T1.out HB.out).mono ?_
        rintro e w2 ⟨A2, c2, rfl, own2, b2⟩
        go_wp2_with fail
        refine (checked_own _ _ _ _ _ _ own2).mono ?_
        rintro e w3 ⟨A3, c3, rfl, own3, b3⟩
        go_wp2
        go_ret2
        rw [Hf.out]
        exact ⟨A3, c3, rfl, own3.low b1.size, (b1.trans (b2.mono b1.size)).trans (b3.mono b1.size)⟩
      · obtain ⟨k, rfl⟩ : ∃ k, m = k + 1 := ⟨m - 1, by omega⟩
        have Hd' : Hid (ldeg zs = (k : Int)) := hd (by rw [Hd.out]; omega)
        have hmx : max (k + 1) 1 = k + 1 := by omega
        rw [hmx] at Hf Htl Htk HB hml
        have ek1 : ((k : Int) == -2) = false := by simp
        have ek2 : decide ((6 : Int) < (k : Int)) = false := by simp; omega
        clear hmx hm0
        go_enter Try.func43, Try.ntmps43
        go_wp2_with fail
        refine (LeastDegree_d _ c zs k _ Hh.out Hd'.out).mono ?_
        rintro e w1 ⟨rfl, b1⟩
        have T1 := hd (Htk.out.below b1)
        go_wp2_with fail
        refine (firstDifferences_n _ _ _ (zs.take (k + 1)) _ Htl.out T1.out HB.out).mono ?_
        rintro e w2 ⟨A2, c2, rfl, own2, b2⟩
        go_wp2_with fail
        refine (checked_own _ _ _ _ _ _ own2).mono ?_
        rintro e w3 ⟨A3, c3, rfl, own3, b3⟩
        go_wp2
        go_ret2
        rw [Hf.out]
        exact ⟨A3, c3, rfl, own3.low b1.size, (b1.trans (b2.mono b1.size)).trans (b3.mono b1.size)⟩
    · obtain rfl : m = 8 := by omega
      have Hf : Hid (interP zs = none) := hd (by rw [interP, hv, Hm.out]; simp)
      clear hv h7
      go_enter Try.func43, Try.ntmps43
      go_wp2_with fail
      refine (LeastDegree_d A c zs 7 _ Hh.out Hd.out).mono ?_
      rintro e w1 ⟨rfl, b1⟩
      go_wp2
      go_ret2
      exact RetO.none_ Hf.out b1

end Go.Proofs.Ythoodhdcmckkpaa
