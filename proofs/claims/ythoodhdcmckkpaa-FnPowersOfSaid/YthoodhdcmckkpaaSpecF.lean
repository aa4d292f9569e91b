/- Contracts of the reference's functions that trim polynomials. -/
import Derived.Test.YthoodhdcmckkpaaSpecE
import Derived.Test.YthoodhdcmckkpaaPolyE
namespace Go.Proofs.Ythoodhdcmckkpaa
open Go.RowKit

theorem RetI.lit {E : TypeId} {w w' : World} {zs : List Int} (h : zs = []) (hb : Below w.heap.size w w') : RetI E w.heap.size w zs (.returned (.slice (some ⟨w'.heap.size, 0, none⟩) 0 0)) (w'.alloc (.cells #[] E)) := by
  subst h
  exact ⟨_, _, rfl, (OwnI.lit0 E w').low hb.size, hb.alloc hb.size _⟩

set_option maxHeartbeats 800000 in
theorem l2Trim_any (A : Option Addr) (c : Nat) (p : List Int) (w : World) (h : SI w A p) (h1 : 0 < p.length) (h7 : p.length ≤ 7) (hcap : p.length ≤ c) :
    Calls Try.prog 86 #[.slice A p.length c] w fun e w' => RetI 3 w.heap.size w (p.take (trimN p p.length)) e w' := by
  obtain ⟨i0, hi, hz0, hz1, hz2⟩ := info_parts infoI
  have Hh := hd h
  have hl := h.len
  clear h
  go_enter Try.func86, Try.ntmps86
  go_wp2
  go_loop [3] (fun i => ∃ m : Nat, m < p.length ∧ i = .int .i64 ((m + 1 : Nat) : Int) ∧ trimN p (m + 1) = trimN p p.length) (fun i => (intOf i).toNat)
  case atStart => exact ⟨p.length - 1, by omega, by rw [Nat.sub_add_cancel h1], by rw [Nat.sub_add_cancel h1]⟩
  case round =>
    obtain ⟨m, hm, rfl, ht⟩ := hrel
    have Ht := hd ht
    clear ht
    have e1 : IntKind.i64.wrap (((m + 1 : Nat) : Int) - 1) = (m : Int) := by rw [show ((m + 1 : Nat) : Int) - 1 = (m : Int) by omega]; exact IntWalk.i64_in _ (by omega)
    obtain ⟨x, b, off, hx, rfl, hb, hc⟩ := Hh.out.at_ hm
    by_cases hgo : 0 < m ∧ x = 0
    · obtain ⟨hm0, rfl⟩ := hgo
      have Hg := hd ((trimN_go hm0 hx).symm.trans Ht.out)
      clear hx
      obtain ⟨l, rfl⟩ : ∃ l, m = l + 1 := ⟨m - 1, by omega⟩
      go_wp2
      go_round
      case rel => exact ⟨l, by omega, by go_num, Hg.out⟩
      case measure => simp [intOf]; omega
    · have Hg : Hid (p.take (trimN p p.length) = p.take (m + 1)) := hd (by
        rw [← Ht.out, trimN_stop]
        by_cases hm0 : m = 0
        · exact .inl hm0
        · refine .inr ?_
          rw [hx]
          intro h0
          injection h0 with h0
          exact hgo ⟨by omega, h0⟩)
      have Htl : Hid ((p.take (m + 1)).length = m + 1) := hd (by simp; omega)
      have Hs := hd ((Hh.out.take (m + 1)))
      have Hc := hd ((Hs.out.alloc (.cells #[] 3)).cells rfl)
      have hor : m = 0 ∨ (x == 0) = false := by
        by_cases hm0 : m = 0
        · exact .inl hm0
        · exact .inr (by simp; intro h0; exact hgo ⟨by omega, h0⟩)
      clear hx hgo
      have Hend : ∀ v1 w1, (w1.ownsRow w.heap.size 3 1 v1 (0 + (m + 1)) ([] ++ (p.take (m + 1)).map (Value.int .i64))) → (w.alloc (.cells #[] 3)).grownBy w1 (some w.heap.size) → RetI 3 w.heap.size w (p.take (trimN p p.length)) (.returned v1) w1 := by
        intro v1 w1 hown hgrow
        have hbel : Below w.heap.size w w1 := ((Below.refl _ _).alloc (Nat.le_refl _) _).grown (row := some w.heap.size) hgrow (by simp) (by simp)
        rw [Hg.out]
        simp only [Nat.zero_add, List.nil_append] at hown
        rcases hown.2 with ⟨_, h0⟩ | ⟨g, cap, cur, hv, h2⟩
        · omega
        · subst hv
          exact RetI.own ⟨by rw [Htl.out]; omega, by rw [Htl.out]; exact hown⟩ Htl.out.symm hbel
      have HEnd := hd Hend
      clear Hend
      rcases hor with rfl | hx0
      · go_wp2_with (at_builtin; refine wpList_append_own _ rfl _ _ 23 rfl w.heap.size 3 i0 (.int .i64 0) 1 8 Try.underlying23 hi hz0 hz1 hz2 rfl (by decide) _ 0 [] rfl (World.ownsRow_made w #[] 0 (Nat.le_refl _) (by simp) (by simp)) ⟨b, off, none⟩ (0 + 1) c ((p.take (0 + 1)).map (Value.int .i64)) rfl (by simp; omega) Hc.out (ints_one _) (by unfold maxLen; omega) (by omega) (by simp) ?_; intro v1 w1 hown hgrow _)
        have Hr := hd (HEnd.out v1 w1 hown hgrow)
        clear hown hgrow
        go_wp2
        go_ret
        exact Hr.out
      · by_cases hm0 : 0 < m
        · go_wp2_with (at_builtin; refine wpList_append_own _ rfl _ _ 23 rfl w.heap.size 3 i0 (.int .i64 0) 1 8 Try.underlying23 hi hz0 hz1 hz2 rfl (by decide) _ 0 [] rfl (World.ownsRow_made w #[] 0 (Nat.le_refl _) (by simp) (by simp)) ⟨b, off, none⟩ (m + 1) c ((p.take (m + 1)).map (Value.int .i64)) rfl (by simp; omega) Hc.out (ints_one _) (by unfold maxLen; omega) (by omega) (by simp) ?_; intro v1 w1 hown hgrow _)
          have Hr := hd (HEnd.out v1 w1 hown hgrow)
          clear hown hgrow
          go_wp2
          go_ret
          exact Hr.out
        · obtain rfl : m = 0 := by omega
          go_wp2_with (at_builtin; refine wpList_append_own _ rfl _ _ 23 rfl w.heap.size 3 i0 (.int .i64 0) 1 8 Try.underlying23 hi hz0 hz1 hz2 rfl (by decide) _ 0 [] rfl (World.ownsRow_made w #[] 0 (Nat.le_refl _) (by simp) (by simp)) ⟨b, off, none⟩ (0 + 1) c ((p.take (0 + 1)).map (Value.int .i64)) rfl (by simp; omega) Hc.out (ints_one _) (by unfold maxLen; omega) (by omega) (by simp) ?_; intro v1 w1 hown hgrow _)
          have Hr := hd (HEnd.out v1 w1 hown hgrow)
          clear hown hgrow
          go_wp2
          go_ret
          exact Hr.out

set_option maxHeartbeats 400000 in
theorem sTrimPoly_any (A : Option Addr) (c : Nat) (p : List Int) (w : World) (h : SI w A p) (hcap : p.length ≤ c) :
    Calls Try.prog 40 #[.slice A p.length c] w fun e w' => RetI 3 w.heap.size w (trimP p) e w' := by
  have Hh := hd h
  have Hcap := hd hcap
  clear h hcap
  cases hv : validP p
  · have Hf : Hid (trimP p = []) := hd (by simp [trimP, hv])
    go_enter Try.func40, Try.ntmps40
    go_wp2_with (go_at_call 76; refine (sPolyValid_any A c p _ Hh.out).mono ?_; rintro e w' ⟨rfl, rfl⟩)
    go_ret
    exact RetI.lit Hf.out (Below.refl _ _)
  · obtain ⟨h1, h7, hx⟩ := validP_iff.1 hv
    have Hf : Hid (trimP p = p.take (trimN p p.length)) := hd (by simp [trimP, hv])
    clear hx
    go_enter Try.func40, Try.ntmps40
    go_wp2_with (first
      | (go_at_call 76; refine (sPolyValid_any A c p _ Hh.out).mono ?_; rintro e w' ⟨rfl, rfl⟩)
      | (go_at_call 86; refine (l2Trim_any A c p _ Hh.out h1 h7 Hcap.out).mono ?_; rintro e w' ⟨A3, c3, rfl, own3, bel3⟩))
    go_ret
    rw [Hf.out]
    exact RetI.own own3 (by simp) bel3

set_option maxHeartbeats 400000 in
theorem sDegreeOf_any (A : Option Addr) (c : Nat) (p : List Int) (w : World) (h : SI w A p) (hcap : p.length ≤ c) :
    Calls Try.prog 41 #[.slice A p.length c] w fun e w' => e = .returned (.int .i64 (degP p)) ∧ Below w.heap.size w w' := by
  have Hh := hd h
  have Hcap := hd hcap
  clear h hcap
  cases hv : validP p
  · have Hf : Hid (degP p = -2) := hd (by simp [degP, hv])
    go_enter Try.func41, Try.ntmps41
    go_wp2_with (go_at_call 76; refine (sPolyValid_any A c p _ Hh.out).mono ?_; rintro e w' ⟨rfl, rfl⟩)
    go_ret
    exact RetN.of Hf.out.symm (Below.refl _ _)
  · obtain ⟨h1, h7, hx⟩ := validP_iff.1 hv
    obtain ⟨q, Hq⟩ : ∃ q, Hid (p.take (trimN p p.length) = q) := ⟨_, hd rfl⟩
    have Htq : Hid (trimP p = q) := hd (by rw [← Hq.out, trimP, if_pos hv])
    have hq1 : 0 < q.length := by rw [← Htq.out]; exact (validP_iff.1 (trimP_valid hv)).1
    have hq7 : q.length ≤ 7 := by rw [← Htq.out]; exact (validP_iff.1 (trimP_valid hv)).2.1
    have Hql : Hid (q.length = trimN p p.length) := hd (by rw [← Htq.out, trimP_len hv])
    have Hq0 : Hid (q[0]? = p[0]?) := hd (by rw [← Hq.out, List.getElem?_take_of_lt (trimN_pos p _ h1)])
    clear hx
    go_enter Try.func41, Try.ntmps41
    go_wp2_with fail
    refine (sPolyValid_any A c p _ Hh.out).mono ?_
    rintro e w' ⟨rfl, rfl⟩
    go_wp2_with fail
    refine (l2Trim_any A c p _ Hh.out h1 h7 Hcap.out).mono ?_
    rintro e w3 ⟨A3, c3, rfl, own3, bel3⟩
    rw [Hq.out] at own3 ⊢
    obtain ⟨x, b, off, hx, rfl, hb, hc⟩ := own3.si.at_ hq1
    have Hx := hd hx
    have hc2 : w3.cell? ⟨b, off, none⟩ = some (.int .i64 x) := hc
    clear hx own3
    cases hz : allB p 0
    · have Hf : Hid (degP p = q.length - 1) := hd (by rw [Hql.out]; simp [degP, hv, hz])
      by_cases hone : q.length = 1
      · have hx0 : (x == 0) = false := by
          cases hb0 : (x == 0)
          · rfl
          · exfalso
            have hx0 : x = 0 := by simpa using hb0
            subst hx0
            have := (allB_zero p h1).2 ⟨by rw [← Hql.out, hone], by rw [← Hq0.out, Hx.out]⟩
            rw [hz] at this; cases this
        have e1 : ((q.length : Int) == 1) = true := by simp [hone]
        go_wp2
        go_ret
        exact RetN.of (by rw [Hf.out]; omega) bel3
      · have e1 : ((q.length : Int) == 1) = false := by simp; omega
        go_wp2
        go_ret
        exact RetN.of Hf.out.symm bel3
    · have Hf : Hid (degP p = -1) := hd (by simp [degP, hv, hz])
      obtain ⟨ht, hp0⟩ := (allB_zero p h1).1 hz
      have hone : q.length = 1 := by rw [Hql.out, ht]
      have hx0 : x = 0 := by
        have h2 := Hx.out
        rw [Hq0.out, hp0] at h2
        injection h2 with h2
        exact h2.symm
      subst hx0
      have e1 : ((q.length : Int) == 1) = true := by simp [hone]
      clear hp0
      go_wp2
      go_ret
      exact RetN.of Hf.out.symm bel3

end Go.Proofs.Ythoodhdcmckkpaa
