/- The walk of the law on the least degree: it returns true, whatever the draw. -/
import Derived.Test.YthoodhdcmckkpaaLawG
import Derived.Test.YthoodhdcmckkpaaDrawH
namespace Go.Proofs.Ythoodhdcmckkpaa
open Go.RowKit

theorem inter_none {zs : List Int} (ht : tabV zs = true) (h : interP zs = none) : 1 ≤ zc 8 zs := by
  rcases Nat.eq_zero_or_pos (zc 8 zs) with h0 | h0
  · exfalso
    have hz : allB (nbrs 0 zs) 0 = true := by have := zc_zero 8 zs (by omega); rwa [h0] at this
    have h1 := (tabV_iff.1 ht).1
    have hf := fd_zero hz h1
    have e : (fd zs).take 1 = [0] := by
      cases hfd : fd zs with
      | nil => rw [hfd] at hf; simp at hf
      | cons a r => rw [hfd] at hf; simp at hf; rw [hf]; rfl
    rw [interP, ht, h0, fd_take, show max 0 1 = 1 from rfl, e] at h
    simp [chk, validP, allB, inB] at h
  · exact h0

theorem ownsRow_slice {B : Nat} {E : TypeId} {w : World} {v : Value} {n : Nat} {xs : List Value} (h : w.ownsRow B E 1 v n xs) : ∃ A c, v = .slice A n c := by
  rcases h.2 with ⟨h1, h2⟩ | ⟨g, cap, cur, hv, _⟩
  · exact ⟨none, 0, by rw [h1, h2]⟩
  · exact ⟨_, _, hv⟩

theorem deAt_n (m : Nat) (A : Option Addr) (c : Nat) (p : List Int) (n : Int) (w : World) (hm : p.length = m) (h : SI w A p) :
    Calls Try.prog 23 #[.slice A m c, .int .i64 n] w fun e w' => e = .returned (.int .i64 (evl p n)) ∧ w = w' := by
  subst hm; exact deAt_any A c p n w h

theorem deAt_q (m : Nat) (A : Option Addr) (c : Nat) (p : List Int) (n : Int) (w : World) (hm : p.length = m) (h : SI w A p) :
    Calls Try.prog 23 #[.slice A m c, .int .i64 n] w fun e w' => e = .returned (.int .i64 (evl p n)) ∧ w' = w :=
  (deAt_n m A c p n w hm h).mono fun _ _ ⟨h1, h2⟩ => ⟨h1, h2.symm⟩

theorem OwnI.drewN {E : TypeId} {B : Nat} {w : World} {A : Option Addr} {c : Nat} {zs : List Int} (h : OwnI E B w A c zs) (n : Nat) : OwnI E B (w.drewN n) A c zs := h

/-- A quiet call in a world that has drawn already. -/
theorem quiet_more {P : Program} {f : FuncId} {args : Array Value} {w : World} {a n : Nat} {v : Value} (h : Calls P f args (w.drewN (a + n)) fun e w' => e = .returned v ∧ w' = w.drewN (a + n)) :
    Calls P f args (w.drewN (a + n)) fun e w' => e = .returned v ∧ ∃ m, w' = w.drewN (a + m) :=
  h.mono fun _ _ ⟨h1, h2⟩ => ⟨h1, n, h2⟩

theorem eq_self (x : Int) : (x == x) = true := by simp
theorem ne_self (x : Int) : (x != x) = false := by simp

/-- What the loop over the values has seen. -/
def Seen (p zs : List Int) (j : Nat) : Prop := ∀ (i : Nat) (x : Int), i < j → zs[i]? = some x → evl p i = x
theorem Seen.succ {p zs : List Int} {j : Nat} {x : Int} (h : Seen p zs j) (hx : zs[j]? = some x) (he : evl p j = x) : Seen p zs (j + 1) := by
  intro i y hi hy
  by_cases hij : i = j
  · subst hij; rw [hx] at hy; injection hy with hy; rw [← hy]; exact he
  · exact h i y (by omega) hy

/-- The loop's second variable. -/
def SameB (b : Bool) (p zs : List Int) (j : Nat) : Prop := b = true → Seen p zs j

theorem LeastDegree_big (A : Option Addr) (c n : Nat) (w : World) (h1 : 1048576 < n) (h2 : n ≤ 9223372036854775807) :
    Calls Try.prog 18 #[.slice A n c] w fun e w' => e = .returned (.bool true) ∧ Below w.heap.size w w' := by
  have hbig' : (1048576 : Int) < n := by omega
  go_enter Try.func18, Try.ntmps18
  go_wp2
  go_ret
  exact ⟨rfl, Below.refl _ _⟩

set_option maxHeartbeats 4000000 in
theorem LeastDegree_walk (A : Option Addr) (c : Nat) (zs : List Int) (w : World) (h : SR w A (zs.map (Value.int .u8))) (hbig : zs.length ≤ 1048576) (hcap : zs.length ≤ c) (hx : ∀ x ∈ zs, 0 ≤ x ∧ x ≤ 255) :
    Calls Try.prog 18 #[.slice A zs.length c] w fun e w' => e = .returned (.bool true) ∧ Below w.heap.size w w' := by
  obtain ⟨i0, hi, hz0, hz1, hz2⟩ := info_parts infoI
  have H := hd h
  have Hx := hd hx
  clear h hx
  go_enter Try.func18, Try.ntmps18
  go_wp2_with fail
  refine (DrawLeastDegree_any A c zs _ H.out hcap Hx.out).mono ?_
  rintro e w1 ⟨A1, c1, q, rfl, hq61, own, hcap1, k1⟩
  have Pq := hd own
  clear own
  obtain ⟨d, Hd⟩ : ∃ d, Hid (ldeg q = d) := ⟨_, hd rfl⟩
  go_wp2_with fail
  refine (LeastDegree_d A1 c1 q d _ Pq.out.si Hd.out).mono ?_
  rintro e w2 ⟨rfl, bb⟩
  have Pq := hd (Pq.out.below bb)
  have k2 := k1.trans (bb.mono k1.size)
  clear bb
  go_wp2_with fail
  refine (sLeastDegree_d A1 c1 q d _ Pq.out.si Hd.out).mono ?_
  rintro e w3 ⟨rfl, bb⟩
  have Pq := hd (Pq.out.below bb)
  have k3 := k2.trans (bb.mono k2.size)
  have E1 := ne_self d
  have E2 := eq_self d
  clear bb
  by_cases hlo : d < -1
  · go_wp2_with fail
    refine (sLeastDegree_d A1 c1 q d _ Pq.out.si Hd.out).mono ?_
    rintro e w4 ⟨rfl, bb⟩
    have k4 := k3.trans (bb.mono k3.size)
    clear bb
    go_wp2
    go_ret
    exact ⟨rfl, k4⟩
  by_cases hhi : 6 < d
  · go_wp2_with fail
    refine (sLeastDegree_d A1 c1 q d _ Pq.out.si Hd.out).mono ?_
    rintro e w4 ⟨rfl, bb⟩
    have k4 := k3.trans (bb.mono k3.size)
    clear bb
    go_wp2
    go_ret
    exact ⟨rfl, k4⟩
  have hlo' : -1 ≤ d := by omega
  have hhi' : d ≤ 6 := by omega
  clear hlo hhi
  obtain ⟨m, Hm⟩ : ∃ m, Hid (zc 8 q = m) := ⟨_, hd rfl⟩
  have Hmd : Hid (tabV q = true ∧ d = (m : Int) - 1 ∧ m ≤ 7) := hd (by
    have h1 := Hd.out
    rw [ldeg] at h1
    split at h1
    · rename_i ht
      rw [Hm.out] at h1
      exact ⟨ht, h1.symm, by omega⟩
    · omega)
  obtain ⟨s, os, Hs0⟩ : ∃ z o, Hid ((interP q).getD [] = z ∧ (interP q).isSome = o) := ⟨_, _, hd ⟨rfl, rfl⟩⟩
  go_wp2_with fail
  refine (Interpolate_any A1 c1 q _ Pq.out.si hcap1).mono ?_
  rintro e w4 ⟨A2, c2, rfl, own, bb⟩
  simp only [Hs0.out.1, Hs0.out.2] at own ⊢
  have Pq := hd (Pq.out.below bb)
  have k4 := k3.trans (bb.mono k3.size)
  have Ss := hd own
  clear own bb
  cases hs : interP q with
  | none =>
    have ho : os = false := by rw [← Hs0.out.2, hs]; rfl
    subst ho
    have hd0 : 0 ≤ d := by
      have h1 := inter_none Hmd.out.1 hs
      rw [Hm.out] at h1
      have := Hmd.out.2.1
      omega
    clear hs
    go_wp2
    go_ret
    exact ⟨rfl, k4⟩
  | some s' =>
    have ho : os = true := by rw [← Hs0.out.2, hs]; rfl
    have hz : s' = s := by rw [← Hs0.out.1, hs]; rfl
    rw [hz] at hs
    subst ho
    have Hs := hd hs
    clear hs hz
    have Hcs := hd Ss.out.cap
    have Hdeg : Hid (degP s = d) := hd (by rw [interP_deg Hs.out, Hd.out])
    have Hval : Hid (∀ (i : Nat) (x : Int), q[i]? = some x → evl s i = x) := hd (fun i x hx => by
      obtain ⟨_, hv, _, _, _, _, hval⟩ := interP_some Hs.out
      have hi := (List.getElem?_eq_some_iff.1 hx).1
      rw [evl_in hv (by omega) (by omega)]
      exact hval i x hx)
    have Hsl : Hid (s.length = max m 1) := hd (by rw [(interP_some Hs.out).2.2.2.2.1, Hm.out])
    go_wp2
    go_loopw [7] (fun i wr => ∃ (j m : Nat), j ≤ q.length ∧ i = .int .i64 j ∧ wr = w4.drewN m) (fun i _ => q.length - (intOf i).toNat)
    case atStart => exact ⟨0, 0, by omega, rfl, rfl⟩
    case round =>
      obtain ⟨j, md, hj, rfl, rfl⟩ := hrel
      have k4 := below_drewN k4 md
      by_cases hlt : j < q.length
      · obtain ⟨x, b, off, hx, rfl, hb, hc⟩ := Pq.out.si.at_ hlt
        have E3 : (evl s j != x) = false := by rw [Hval.out j x hx]; simp
        clear hx
        go_wp2
        go_quiet ((go_at_call 23; exact quiet_more (deAt_q _ A2 c2 s j _ rfl Ss.out.si)))
        go_wp2
        go_roundw
        case rel => exact ⟨j + 1, _, by omega, by go_num, rfl⟩
        case measure => simp [intOf]; omega
      · have Pq : Hid (OwnI 3 w.heap.size (w4.drewN md) A1 c1 q) := hd Pq.out
        have Ss : Hid (OwnI 3 w3.heap.size (w4.drewN md) A2 c2 s) := hd Ss.out
        obtain ⟨w4, hw4⟩ : ∃ w4', w4' = w4.drewN md := ⟨_, rfl⟩
        rw [← hw4] at Pq Ss k4 ⊢
        clear hw4
        by_cases hd0 : 0 ≤ d
        · obtain ⟨k, rfl⟩ := Int.eq_ofNat_of_zero_le hd0
          have hmk : m = k + 1 := by have := Hmd.out.2.1; omega
          have hk6 : k ≤ 6 := by omega
          have hsk : s.length = k + 1 := by rw [Hsl.out, hmk]; omega
          obtain ⟨b2, off2, hA2, hb2⟩ := Ss.out.si.nonempty (by omega)
          obtain ⟨few, Hfew⟩ : ∃ f, Hid (s.take k = f) := ⟨_, hd rfl⟩
          have Hfl : Hid (few.length = k) := hd (by rw [← Hfew.out, List.length_take]; omega)
          have Hft := hd (Ss.out.si.take k)
          rw [Hfew.out] at Hft
          have hkc : k ≤ c2 := by have := Hcs.out; omega
          subst hA2
          have Hc := hd ((Hft.out.alloc (.cells #[] 3)).cells rfl)
          have Hno : Hid (Seen few q q.length → 0 < k → False) := hd (fun hse hk0 => by
            obtain ⟨x, hx, hne⟩ := few_other Hs.out (by rw [Hm.out, hmk])
            have hlt := (List.getElem?_eq_some_iff.1 hx).1
            have h1 := hse k x hlt hx
            have hv : validP few = true := by rw [← Hfew.out]; exact few_valid (interP_some Hs.out).2.1 hk0
            rw [evl_in hv (by omega) (by omega), ← Hfew.out] at h1
            exact hne h1)
          clear hmk hsk
          go_wp2_with (at_builtin; refine wpList_append_own _ rfl _ _ 23 rfl w4.heap.size 3 i0 (.int .i64 0) 1 8 Try.underlying23 hi hz0 hz1 hz2 rfl (by decide) _ 0 [] rfl (World.ownsRow_made w4 #[] 0 (Nat.le_refl _) (by simp) (by simp)) ⟨b2, off2, none⟩ k c2 (few.map (Value.int .i64)) rfl (by rw [List.length_map, Hfl.out]; omega) Hc.out (ints_one _) (by unfold maxLen; omega) (by omega) (by simp) ?_; intro v1 w5 hown hgrow hnil; clear hnil; obtain ⟨A3, c3, hv1⟩ := ownsRow_slice hown; subst hv1)
          have bel5 : Below w4.heap.size w4 w5 := ((Below.refl _ _).alloc (Nat.le_refl _) _).grown (row := some w4.heap.size) hgrow (by simp) (by simp)
          simp only [Nat.zero_add, List.nil_append] at hown
          have Ff : Hid (SI w5 A3 few) := hd (OwnI.si (E := 3) (B := w4.heap.size) (c := c3) ⟨by rw [Hfl.out]; omega, by rw [Hfl.out]; exact hown⟩)
          have Pq := hd (Pq.out.below bel5)
          have Ss := hd (Ss.out.below bel5)
          have k5 := k4.trans (bel5.mono k4.size)
          clear hown hgrow bel5
          by_cases hk0 : 0 < k
          · go_wp2
            go_loopw [9, 10] (fun sm i wr => ∃ (j : Nat) (b : Bool) (m : Nat), j ≤ q.length ∧ i = .int .i64 j ∧ sm = .bool b ∧ SameB b few q j ∧ wr = w5.drewN m) (fun _ i _ => q.length - (intOf i).toNat)
            case atStart => exact ⟨0, true, 0, by omega, rfl, by simp [hk0], fun _ i x hi _ => by omega, rfl⟩
            case round =>
              obtain ⟨j, bs, md, hj, rfl, rfl, hse, rfl⟩ := hrel
              have Hse := hd hse
              have k5 := below_drewN k5 md
              clear hse
              cases bs with
              | false =>
                have Ss := hd (Ss.out.drewN md)
                by_cases hlt : j < q.length
                all_goals
                  go_wp2_with fail
                  refine (DegreeOf_d _ c2 s k _ Ss.out.si Hcs.out Hdeg.out).mono ?_
                  rintro e w6 ⟨rfl, bb⟩
                  have k6 := k5.trans (bb.mono k5.size)
                  clear bb
                  go_wp2
                  go_ret
                  exact ⟨rfl, k6⟩
              | true =>
                by_cases hlt : j < q.length
                · obtain ⟨x, b, off, hx, rfl, hb, hc⟩ := Pq.out.si.at_ hlt
                  have Hxj := hd hx
                  have Hnx : Hid (SameB (evl few j == x) few q (j + 1)) := hd (fun hb => (Hse.out rfl).succ Hxj.out (by simpa using hb))
                  clear hx
                  go_wp2
                  go_quiet ((go_at_call 23; exact quiet_more (deAt_q k A3 c3 few j _ Hfl.out Ff.out)))
                  go_wp2
                  go_roundw
                  case rel => exact ⟨j + 1, evl few j == x, _, by omega, by go_num, rfl, Hnx.out, rfl⟩
                  case measure => simp [intOf]; omega
                · exfalso
                  obtain rfl : j = q.length := by omega
                  exact Hno.out (Hse.out rfl) hk0
          · obtain rfl : k = 0 := by omega
            go_wp2
            go_loop [9, 10] (fun sm i => ∃ (j : Nat), j ≤ q.length ∧ i = .int .i64 j ∧ sm = .bool false) (fun _ i => q.length - (intOf i).toNat)
            case atStart => exact ⟨0, by omega, rfl, rfl⟩
            case round =>
              obtain ⟨j, hj, rfl, rfl⟩ := hrel
              by_cases hlt : j < q.length
              all_goals
                go_wp2_with fail
                refine (DegreeOf_d _ c2 s _ _ Ss.out.si Hcs.out Hdeg.out).mono ?_
                rintro e w6 ⟨rfl, bb⟩
                have k6 := k5.trans (bb.mono k5.size)
                clear bb
                go_wp2
                go_ret
                exact ⟨rfl, k6⟩
        · obtain rfl : d = -1 := by omega
          go_wp2_with fail
          refine (DegreeOf_d A2 c2 s (-1) _ Ss.out.si Hcs.out Hdeg.out).mono ?_
          rintro e w6 ⟨rfl, bb⟩
          have k6 := k4.trans (bb.mono k4.size)
          clear bb
          go_wp2
          go_ret
          exact ⟨rfl, k6⟩

end Go.Proofs.Ythoodhdcmckkpaa
