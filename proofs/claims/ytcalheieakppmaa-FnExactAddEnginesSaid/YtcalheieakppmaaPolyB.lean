/- Contracts of first differences, of a checked polynomial, of a value. -/
import Derived.Test.YtcalheieakppmaaPolyA
namespace Go.Proofs.Ytcalheieakppmaa
open Go.RowKit
set_option maxRecDepth 4000

/-- The slice's cells do not lie in block g. -/
def Off (A : Option Addr) (g : Nat) : Prop := ∀ a, A = some a → a.block ≠ g

theorem SI.grown {w w' : World} {A : Option Addr} {zs : List Int} {g : Nat} (h : SI w A zs) (hg : w.grownBy w' (some g)) (ho : Off A g) : SI w' A zs :=
  ⟨h.1, fun k v hk => by
    obtain ⟨b, off, e, hb, hv⟩ := h.2 k v hk
    have hne := ho _ e
    exact ⟨b, off, e, Nat.lt_of_lt_of_le hb hg.size, hg.cell hv (by simpa using hne)⟩⟩

theorem SI.alloc {w : World} {A : Option Addr} {zs : List Int} (h : SI w A zs) (o : Obj) : SI (w.alloc o) A zs := h.below ((Below.refl _ _).alloc (Nat.le_refl _) o)

theorem OwnI.off {E : TypeId} {B : Nat} {w : World} {A : Option Addr} {c : Nat} {zs : List Int} (h : OwnI E B w A c zs) {g : Nat} (hg : g < B) : Off A g := by
  intro a ha
  subst ha
  have := (h.2.lt a.block rfl).1
  omega

theorem nbrs_zero_at (zs : List Int) (k : Nat) (hk : k < zs.length) : ∃ x, (nbrs k zs)[0]? = some x := by
  have : 0 < (nbrs k zs).length := by rw [nbrs_length]; omega
  exact ⟨_, List.getElem?_eq_getElem this⟩

set_option maxHeartbeats 400000 in
theorem firstDifferences_any (A : Option Addr) (c : Nat) (zs : List Int) (w : World) (h : SI w A zs) (hB : ∀ k, k < zs.length → ∀ x ∈ nbrs k zs, -2000000000000000000 ≤ x ∧ x ≤ 2000000000000000000) :
    Calls Try.prog 113 #[.slice A zs.length c] w fun e w' => RetI 3 w.heap.size w (fd zs) e w' := by
  obtain ⟨i0, hi, hz0, hz1, hz2⟩ := info_parts infoI
  have hl := h.len
  have Hh := hd h
  have HB := hd hB
  clear h hB
  go_enter Try.func113, Try.ntmps113
  go_wp2_with (at_make; refine wpList_make_own _ rfl _ _ 22 rfl w.heap.size 3 i0 (.int .i64 0) 1 Try.underlying22 hi hz0 hz1 .i64 .i64 _ zs.length rfl rfl rfl (by rw [hz2]; omega) (by unfold maxLen; omega) (Nat.le_refl _) ?_; intro w1 hown hgrow)
  have Hown0 := hd hown
  have hbel0 : Below w.heap.size w w1 := (Below.refl _ _).grown hgrow (Nat.le_refl _) (by simp)
  have Hs0 : Hid (SI w1 A zs) := hd (Hh.out.below hbel0)
  have Hoff0 : Hid (zs = [] ∨ Off A w.heap.size) := hd (by
    by_cases hz : 0 < zs.length
    · right
      obtain ⟨x, b, off, _, e, hb, _⟩ := Hh.out.at_ hz
      intro a ha
      rw [e] at ha
      simp only [Option.some.injEq] at ha
      subst ha
      simp; omega
    · left; exact List.eq_nil_of_length_eq_zero (by omega))
  have hsz : w.heap.size < w1.heap.size := by have := hown.lt _ rfl; omega
  clear hown hgrow
  go_loopw [3, 4] (fun r row wr => ∃ (k : Nat) (A' : Option Addr) (c' : Nat), k ≤ zs.length ∧ r = .slice (some ⟨w.heap.size, 0, none⟩) k zs.length ∧ row = .slice A' (nbrs k zs).length c' ∧ SI wr A' (nbrs k zs) ∧ (nbrs k zs = [] ∨ Off A' w.heap.size) ∧
      wr.ownsRow w.heap.size 3 1 (.slice (some ⟨w.heap.size, 0, none⟩) k zs.length) k (((fd zs).take k).map (Value.int .i64)) ∧ Below w.heap.size w wr ∧ w.heap.size < wr.heap.size)
    (fun r _ _ => zs.length - sliceLen r)
  case atStart => exact ⟨0, A, c, by omega, rfl, rfl, Hs0.out, Hoff0.out, by simpa using Hown0.out, hbel0, hsz⟩
  case round =>
    clear hbel0 hsz
    obtain ⟨k, A', c', hk, rfl, rfl, hs, hoff, hown, hbel, hsz⟩ := hrel
    have Hs := hd hs
    have Hoff := hd hoff
    have Hown := hd hown
    clear hs hoff hown
    have Hln := hd (nbrs_length k zs)
    by_cases hlt : k < zs.length
    · have hpos : 0 < (nbrs k zs).length := by rw [Hln.out]; omega
      obtain ⟨x, b, off, hx, rfl, hbw, hc⟩ := Hs.out.at_ hpos
      have Hfk := hd (fd_at zs k x hx)
      have hne : b ≠ w.heap.size := by
        rcases Hoff.out with h0 | h0
        · rw [h0] at hpos; simp at hpos
        · exact h0 _ rfl
      clear hx
      rw [Nat.add_zero] at hc
      go_wp2_with (at_builtin; refine wpList_append_fits _ rfl _ _ 22 rfl w.heap.size 3 i0 1 Try.underlying22 hi hz1 w.heap.size k zs.length _ rfl (Hown.out.alloc _) ⟨wr.heap.size, 0, none⟩ 1 1 [.int .i64 x] rfl rfl ?c1 ?c2 (by omega) ?_)
      case c1 =>
        intro j u hj
        match j, hj with
        | 0, hj => simp at hj; subst hj; simp [Addr.add]
      case c2 => intro u hu; simp at hu; subst hu; rfl
      intro w2 hown2 hgrow2
      have hx2 : SI w2 (some ⟨b, off, none⟩) (nbrs k zs) := (Hs.out.alloc _).grown hgrow2 (fun a ha => by simp only [Option.some.injEq] at ha; subst ha; exact hne)
      have Hx2 := hd hx2
      have HB2 := hd (HB.out k hlt)
      have hbel2 : Below w.heap.size w w2 := (hbel.alloc (Nat.le_of_lt hsz) _).grown hgrow2 (by simp; omega) (by simp)
      have hsz2 : w.heap.size < w2.heap.size := by have := hgrow2.size; simp at this; omega
      have Hown2 : Hid (w2.ownsRow w.heap.size 3 1 (.slice (some ⟨w.heap.size, 0, none⟩) (k + 1) zs.length) (k + 1) (((fd zs).take (k + 1)).map (Value.int .i64))) := hd (by
        have hfk := Hfk.out
        obtain ⟨hkl, hkx⟩ := List.getElem?_eq_some_iff.1 hfk
        rw [List.take_succ_eq_append_getElem hkl, hkx]
        simpa using hown2)
      clear hx2 hown2 hgrow2
      go_wp2_with (go_at_call 110; refine (neighbors_any (some ⟨b, off, none⟩) c' (nbrs k zs) _ Hx2.out HB2.out).mono ?_; rintro e w3 ⟨A3, c3, rfl, hown3, hbel3⟩)
      have hown3' : OwnI 3 w2.heap.size w3 A3 c3 (nbrs (k + 1) zs) := hown3
      have hb3 := hbel3.mono (Nat.le_of_lt hsz2)
      go_roundw
      case rel =>
        refine ⟨k + 1, A3, c3, by omega, rfl, rfl, hown3'.si, .inr (hown3'.off hsz2), ?_, hbel2.trans hb3, Nat.lt_of_lt_of_le hsz2 hbel3.size⟩
        exact Hown2.out.kept (row := none) ⟨hbel3.os, hbel3.tape, hbel3.output, hbel3.size, fun j hj _ => hbel3.block j hj⟩ (.inr (by simp [Value.ownBlock]))
      case measure => simp [sliceLen]; omega
    · obtain rfl : k = zs.length := by omega
      have hz : (nbrs zs.length zs).length = 0 := by rw [Hln.out]; omega
      have hfl := fd_length zs
      have Hf : Hid (OwnI 3 w.heap.size wr (some ⟨w.heap.size, 0, none⟩) zs.length (fd zs)) := hd ⟨by omega, by
        have := Hown.out
        rw [List.take_of_length_le (by omega)] at this
        rw [hfl]; exact this⟩
      have Hz := hd hz
      have Hfl := hd hfl
      have hz0' : ¬ (0 : Int) < (nbrs zs.length zs).length := by omega
      clear hz hfl
      go_wp2
      go_ret
      exact RetI.own Hf.out Hfl.out.symm hbel

theorem firstDifferences_n (n : Nat) (A : Option Addr) (c : Nat) (zs : List Int) (w : World) (hn : zs.length = n) (h : SI w A zs) (hB : ∀ k, k < zs.length → ∀ x ∈ nbrs k zs, -2000000000000000000 ≤ x ∧ x ≤ 2000000000000000000) :
    Calls Try.prog 113 #[.slice A n c] w fun e w' => RetI 3 w.heap.size w (fd zs) e w' := by
  subst hn; exact firstDifferences_any A c zs w h hB

end Go.Proofs.Ytcalheieakppmaa
