/- Contracts of the draws of polynomials: some list comes back, in memory of the call's own. -/
import Derived.Test.YtcalheieakppmaaDrawA
namespace Go.Proofs.Ytcalheieakppmaa
open Go.RowKit
set_option maxRecDepth 4000

theorem only_trans {a b c : World} {row : Option Nat} (h : a.grownBy b row) (k : b.grownBy c row) : a.grownBy c row :=
  ⟨k.os.trans h.os, k.tape.trans h.tape, k.output.trans h.output, Nat.le_trans h.size k.size, fun i hi hne => (k.block i (Nat.lt_of_lt_of_le hi h.size) hne).trans (h.block i hi hne)⟩
theorem only_below {a b c : World} {row : Option Nat} (h : a.grownBy b row) (k : Below a.heap.size b c) : a.grownBy c row :=
  ⟨k.os.trans h.os, k.tape.trans h.tape, k.output.trans h.output, Nat.le_trans h.size k.size, fun i hi hne => (k.block i hi).trans (h.block i hi hne)⟩
theorem only_alloc {a w : World} {row : Option Nat} (h : a.grownBy w row) (o : Obj) : a.grownBy (w.alloc o) row :=
  only_below h ((Below.refl _ _).alloc h.size o)

/-- A list has been drawn: of the call's own, Q holds of it; the source is further on; nothing else changed. -/
def Drawn (E : TypeId) (Q : List Int → Prop) (g : Nat) (P : Int) (w : World) (e : Ending) (w' : World) : Prop :=
  ∃ A c zs, e = .returned (.slice A zs.length c) ∧ Q zs ∧ OwnI E w.heap.size w' A c zs ∧ zs.length ≤ c ∧ Rdr w' g P ∧ w.grownBy w' (some g)

theorem OwnI.cap {E : TypeId} {B : Nat} {w : World} {A : Option Addr} {c : Nat} {zs : List Int} (h : OwnI E B w A c zs) : zs.length ≤ c := by
  rcases h.2.2 with ⟨h1, h2⟩ | ⟨g, cap, cur, hv, _, _, hc, _⟩
  · simp only [Value.slice.injEq] at h1; omega
  · simp only [Value.slice.injEq] at hv; omega

theorem OwnI.offg {E : TypeId} {B : Nat} {w : World} {A : Option Addr} {c : Nat} {zs : List Int} (h : OwnI E B w A c zs) {g : Nat} (hg : g < B) : Off A g := h.off hg

/-- A polynomial as a draw makes it. -/
def SmallPoly (zs : List Int) : Prop := 1 ≤ zs.length ∧ zs.length ≤ 6 ∧ ∀ x ∈ zs, -1000 ≤ x ∧ x ≤ 1000

theorem mul_range (a b : Int) (ha : 0 ≤ a) (ha' : a < 256) (hb : 0 ≤ b) (hb' : b < 256) : 0 ≤ a * b ∧ a * b ≤ 70000 := by
  have h1 := Int.mul_nonneg ha hb
  have h2 := mul_bd a b 256 256 (by decide) (by omega) (by omega) (by omega) (by omega)
  omega

set_option maxHeartbeats 1600000 in
theorem l2Some_any (g : Nat) (P : Int) (w : World) (h : Rdr w g P) (hP : P ≤ 1000) :
    Calls Try.prog 159 #[.pointer (some ⟨g, 0, none⟩)] w fun e w' => Drawn 3 SmallPoly g (P + 20) w e w' := by
  obtain ⟨i0, hi, hz0, hz1, hz2⟩ := info_parts infoI
  have hg := h.lt
  have Hown0 := hd (OwnI.lit0 3 w)
  have r1 := h.below ((Below.refl w.heap.size w).alloc (Nat.le_refl _) (.cells #[] 3)) hg
  have Hr2 := hd (r1.below ((Below.refl (w.alloc (.cells #[] 3)).heap.size (w.alloc (.cells #[] 3))).alloc (Nat.le_refl _) (.cells #[.int .i64 10, .int .i64 100, .int .i64 1000, .int .i64 3] 3)) (by simp; omega))
  have Hlit : Hid (OwnI 3 (w.heap.size + 1) ((w.alloc (.cells #[] 3)).alloc (.cells #[.int .i64 10, .int .i64 100, .int .i64 1000, .int .i64 3] 3)) (some ⟨w.heap.size + 1, 0, none⟩) 4 [10, 100, 1000, 3]) := hd (by
    have hs1 : (w.alloc (.cells #[] 3)).heap.size = w.heap.size + 1 := by simp
    have := World.ownsRow_lit (base := (w.alloc (.cells #[] 3)).heap.size) (e := 3) (size := 1) (w.alloc (.cells #[] 3)) #[.int .i64 10, .int .i64 100, .int .i64 1000, .int .i64 3] 4 (Nat.le_refl _) (by simp [maxLen]) rfl
    rw [hs1] at this
    exact ⟨by simp, this⟩)
  clear h r1
  go_enter Try.func159, Try.ntmps159
  go_wp2_with fail
  refine (num_any g P _ 4 [10, 100, 1000, 3] _ Hr2.out (by omega) Hlit.out.si (Hlit.out.off (by omega)) (by simp)).mono ?_
  rintro e w1 ⟨s, rfl, hs, r3, g3⟩
  have hs3 : 3 ≤ s ∧ s ≤ 1000 := by simp at hs; omega
  obtain ⟨hs4, hs5⟩ := hs3
  have k1 : w.grownBy w1 (some g) := only_trans (only_alloc (only_alloc (World.grownBy.refl w _) _) _) g3
  have o1 : OwnI 3 w.heap.size w1 (some ⟨w.heap.size, 0, none⟩) 0 [] := (Hown0.out.alloc _).keep_lo g3 (fun r hr => by simp at hr; omega)
  clear hs g3
  go_wp2_with fail
  refine (pick_any g (P + 1) 5 _ r3 (by omega)).mono ?_
  rintro e w2 ⟨v, rfl, hv, r4, g4⟩
  obtain ⟨hv0, hv1⟩ := hv
  have hv2 := hv1 (by omega)
  have K2 := hd (only_trans k1 g4)
  have O2 := hd (o1.keep_lo g4 (fun r hr => by simp at hr; omega))
  have R2 := hd r4
  obtain ⟨v, rfl⟩ := Int.eq_ofNat_of_zero_le hv0
  clear k1 o1 r3 r4 g4 hv1
  go_wp2
  go_loopw [3, 5] (fun r i wr => ∃ (k : Nat) (A : Option Addr) (c : Nat) (zs : List Int), i = .int .i64 k ∧ k + zs.length = v + 1 ∧ r = .slice A zs.length c ∧ OwnI 3 w.heap.size wr A c zs ∧ (∀ x ∈ zs, -1000 ≤ x ∧ x ≤ 1000) ∧ Rdr wr g (P + 2 + 2 * zs.length) ∧ w.grownBy wr (some g))
    (fun _ i _ => (intOf i).toNat)
  case atStart => exact ⟨v + 1, _, _, [], by go_num, by simp, rfl, O2.out, by simp, R2.out.more (by simp; omega), K2.out⟩
  case round =>
    obtain ⟨k, A, c, zs, rfl, hk, rfl, own, hx, rd, gr⟩ := hrel
    have Own := hd own
    have Hx := hd hx
    have Rd := hd rd
    have Gr := hd gr
    have Hk := hd hk
    have hk6 : k + zs.length ≤ 5 := by omega
    have hsz : w.heap.size ≤ wr.heap.size := gr.size
    clear own hx rd gr hk
    by_cases hk0 : 0 < k
    · go_wp2_with fail
      refine (pick_any g (P + 2 + 2 * zs.length) 256 _ Rd.out (by omega)).mono ?_
      rintro e w3 ⟨a, rfl, ha, r5, g5⟩
      obtain ⟨ha0, ha1⟩ := ha
      have ha2 := ha1 (by omega)
      have Gr := hd (only_trans Gr.out g5)
      have Own := hd (Own.out.keep_lo g5 (fun r hr => by simp at hr; omega))
      clear g5 ha1
      go_wp2_with fail
      refine (pick_any g _ 256 _ r5 (by omega)).mono ?_
      rintro e w4 ⟨b, rfl, hb, r6, g6⟩
      obtain ⟨hb0, hb1⟩ := hb
      have hb2 := hb1 (by omega)
      have Gr := hd (only_trans Gr.out g6)
      have Own := hd (Own.out.keep_lo g6 (fun r hr => by simp at hr; omega))
      have R6 := hd r6
      have hsz4 : w.heap.size ≤ w4.heap.size := Gr.out.size
      obtain ⟨hm1, hm2⟩ := mul_range a b ha0 ha2 hb0 hb2
      have hmod1 : 0 ≤ a * b % (2 * s + 1) := Int.emod_nonneg _ (by omega)
      have hmod2 : a * b % (2 * s + 1) < 2 * s + 1 := Int.emod_lt_of_pos _ (by omega)
      clear g6 hb1 r5 r6
      go_wp2_with (at_builtin; refine wpList_app1 rfl _ _ 22 3 rfl w.heap.size i0 Try.underlying22 hi hz0 hz1 hz2 zs.length A c zs w4.heap.size (a * b % (2 * s + 1) - s) rfl rfl rfl (new_cell _ _ _) (Own.out.alloc _) (by omega) (by simp; omega) ?_; intro A2 c2 w5 hown2 hbel2 _)
      have Hown2 := hd hown2
      have Hgr2 := hd (only_below (only_alloc Gr.out _) hbel2)
      have Hrd2 := hd ((R6.out.below ((Below.refl w.heap.size w4).alloc hsz4 (.cells #[.int .i64 (a * b % (2 * s + 1) - s)] 3)) hg).below hbel2 hg)
      clear hown2 hbel2
      go_wp2
      go_roundw
      case rel =>
        refine ⟨k - 1, A2, c2, zs ++ [a * b % (2 * s + 1) - s], by go_num, by simp; have := Hk.out; omega, by simp, Hown2.out, ?_, Hrd2.out.more (by simp; omega), Hgr2.out⟩
        intro x hx
        rcases List.mem_append.1 hx with hx | hx
        · exact Hx.out x hx
        · simp at hx; subst hx; omega
      case measure => simp [intOf]; omega
    · obtain rfl : k = 0 := by omega
      have hzl : zs.length = v + 1 := by have := Hk.out; omega
      have Hzl := hd hzl
      have hz5 : 1 ≤ zs.length ∧ zs.length ≤ 5 := by omega
      obtain ⟨hz51, hz52⟩ := hz5
      clear hzl
      go_wp2_with fail
      refine (pick_any g (P + 2 + 2 * zs.length) 5 _ Rd.out (by omega)).mono ?_
      rintro e w3 ⟨a, rfl, ha, r5, g5⟩
      obtain ⟨ha0, ha1⟩ := ha
      have Gr := hd (only_trans Gr.out g5)
      have Own := hd (Own.out.keep_lo g5 (fun r hr => by simp at hr; omega))
      have R5 := hd r5
      have hsz3 : w.heap.size ≤ w3.heap.size := Gr.out.size
      clear g5 ha1 r5
      by_cases ha3 : a = 0
      · subst ha3
        go_wp2_with (at_builtin; refine wpList_app1 rfl _ _ 22 3 rfl w.heap.size i0 Try.underlying22 hi hz0 hz1 hz2 zs.length A c zs w3.heap.size 0 rfl rfl rfl (new_cell _ _ _) (Own.out.alloc _) (by omega) (by simp; omega) ?_; intro A2 c2 w5 hown2 hbel2 _)
        have Hown2 := hd hown2
        have Hgr2 := hd (only_below (only_alloc Gr.out _) hbel2)
        have Hrd2 := hd ((R5.out.below ((Below.refl w.heap.size w3).alloc hsz3 (.cells #[.int .i64 0] 3)) hg).below hbel2 hg)
        clear hown2 hbel2
        go_wp2
        go_ret
        refine ⟨A2, c2, zs ++ [0], by simp, ⟨by simp, by simp; omega, ?_⟩, Hown2.out, Hown2.out.cap, Hrd2.out.more (by omega), Hgr2.out⟩
        intro x hx
        rcases List.mem_append.1 hx with hx | hx
        · exact Hx.out x hx
        · simp at hx; subst hx; omega
      · have ha4 : (a == 0) = false := by simp [ha3]
        clear ha3
        go_wp2
        go_ret
        exact ⟨A, c, zs, rfl, ⟨by omega, by omega, Hx.out⟩, Own.out, Own.out.cap, R5.out.more (by omega), Gr.out⟩

end Go.Proofs.Ytcalheieakppmaa
