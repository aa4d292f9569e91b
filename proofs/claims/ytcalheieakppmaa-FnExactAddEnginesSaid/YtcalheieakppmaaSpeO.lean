/- Contracts of the reference's functions on engines: copies, turns. -/
import Derived.Test.YtcalheieakppmaaSpeN
namespace Go.Proofs.Ytcalheieakppmaa
open Go.RowKit
set_option maxRecDepth 4000

theorem ownsRow_slice {B : Nat} {E : TypeId} {w : World} {v : Value} {n : Nat} {xs : List Value} (h : w.ownsRow B E 1 v n xs) : ∃ A c, v = .slice A n c := by
  rcases h.2 with ⟨h1, h2⟩ | ⟨g, cap, cur, hv, _⟩
  · exact ⟨none, 0, by rw [h1, h2]⟩
  · exact ⟨_, _, hv⟩

/-- An engine of the call's own is returned; below B nothing has changed. -/
def RetE (E : TypeId) (B : Nat) (w : World) (cs : List ByteArray) (e : Ending) (w' : World) : Prop :=
  ∃ A c, e = .returned (.agg #[.slice A cs.length c]) ∧ OwnS E B w' A c cs ∧ Below B w w'
theorem RetE.own {E : TypeId} {B n c : Nat} {A : Option Addr} {w w' : World} {cs : List ByteArray} (h : OwnS E B w' A c cs) (hn : n = cs.length) (hb : Below B w w') : RetE E B w cs (.returned (.agg #[.slice A n c])) w' := by
  subst hn; exact ⟨_, _, rfl, h, hb⟩

set_option maxHeartbeats 800000 in
theorem l3Copy_any (A : Option Addr) (c n : Nat) (cs : List ByteArray) (w : World) (h : SS w A cs) (hn : cs.length = n) (hn1 : 1 ≤ n) (hn7 : n ≤ 1048576) :
    Calls Try.prog 85 #[.agg #[.slice A n c]] w fun e w' => RetE 9 w.heap.size w cs e w' := by
  subst hn
  obtain ⟨i0, hi, hz0, hz1, hz2⟩ := info_parts infoS
  obtain ⟨b, off, rfl, hb⟩ := h.nonempty (by omega)
  have F0 := hd ((Fr.start w (.slice (some ⟨b, off, none⟩) cs.length c) (.slice none 0 0) 31 31).alloc (.cells #[] 9))
  have Hc := hd ((((h.alloc (.cells #[.slice (some ⟨b, off, none⟩) cs.length c] 31)).alloc (.cells #[.slice none 0 0] 31)).alloc (.cells #[] 9)).cells rfl)
  have Hlit : Hid ((((w.alloc (.cells #[.slice (some ⟨b, off, none⟩) cs.length c] 31)).alloc (.cells #[.slice none 0 0] 31)).alloc (.cells #[] 9)).ownsRow (w.heap.size + 2) 9 1 (.slice (some ⟨w.heap.size + 2, 0, none⟩) 0 0) 0 []) := hd (by
    have h1 : ((w.alloc (.cells #[.slice (some ⟨b, off, none⟩) cs.length c] 31)).alloc (.cells #[.slice none 0 0] 31)).heap.size = w.heap.size + 2 := by simp
    have := World.ownsRow_lit (base := ((w.alloc (.cells #[.slice (some ⟨b, off, none⟩) cs.length c] 31)).alloc (.cells #[.slice none 0 0] 31)).heap.size) (e := 9) (size := 1) ((w.alloc (.cells #[.slice (some ⟨b, off, none⟩) cs.length c] 31)).alloc (.cells #[.slice none 0 0] 31)) #[] 0 (Nat.le_refl _) (by simp) rfl
    rwa [h1] at this)
  clear h
  go_enter Try.func85, Try.ntmps85
  go_wp2_with (at_builtin; refine wpList_append_own _ rfl _ _ 27 rfl (w.heap.size + 2) 9 i0 (.string ByteArray.empty) 1 16 Try.underlying27 hi hz0 hz1 hz2 rfl (by decide) _ 0 [] rfl Hlit.out ⟨b, off, none⟩ cs.length c (cs.map Value.string) rfl (by simp) Hc.out (strs_one cs) (by unfold maxLen; omega) (by omega) (by simp) ?_; intro v1 w1 hown hgrow hnil; clear hnil; obtain ⟨A3, c3, hv1⟩ := ownsRow_slice hown; subst hv1; have F1 := hd (F0.out.grown (r := w.heap.size + 2) hgrow (Nat.le_refl _)); obtain ⟨⟨c1, f1⟩, ⟨c2, f2⟩, -, -⟩ := F1.out)
  simp only [Nat.zero_add, List.nil_append] at hown
  have Own : Hid (OwnS 9 w.heap.size (w1.setCell ⟨w.heap.size + 1, 0, none⟩ (.slice A3 cs.length c3)) A3 c3 cs) := hd
    (((OwnG.of_row (A := A3) (c := c3) hown rfl (by omega)).keep_lo (grown_set w1 ⟨w.heap.size + 1, 0, none⟩ (.slice A3 cs.length c3)) (fun r hr => by simp at hr; omega)).low (by omega))
  clear hown hgrow
  refine bodyPost_ret (v := .agg #[.slice A3 cs.length c3]) ?_ rfl (RetE.own Own.out rfl (F1.out.done _))
  simp [results, Try.results85, c2, go_sem]

/-- The same with the cell of a local struct in block g. -/
def Fr3 (w w1 : World) (v v2 : Value) (g : Nat) (v3 : Value) : Prop :=
  Fr w w1 v v2 ∧ (w1.cell? ⟨g, 0, none⟩ = some v3 ∧ w1.frozen? ⟨g, 0, none⟩ = false) ∧ w.heap.size + 2 ≤ g ∧ g < w1.heap.size

theorem Fr3.below {w w1 w2 : World} {v v2 v3 : Value} {g : Nat} (h : Fr3 w w1 v v2 g v3) (b : Below w1.heap.size w1 w2) : Fr3 w w2 v v2 g v3 := by
  obtain ⟨h1, ⟨h2, h3⟩, h4, h5⟩ := h
  refine ⟨h1.below b, ⟨?_, ?_⟩, h4, Nat.lt_of_lt_of_le h5 b.size⟩
  · rw [b.cell (p := ⟨g, 0, none⟩) h5]; exact h2
  · rw [b.frozen (p := ⟨g, 0, none⟩) h5]; exact h3
theorem Fr3.drew {w w1 : World} {v v2 v3 : Value} {g : Nat} (h : Fr3 w w1 v v2 g v3) : Fr3 w w1.drew v v2 g v3 :=
  ⟨⟨h.1.1, h.1.2.1, h.1.2.2.1, h.1.2.2.2.drew⟩, h.2.1, h.2.2⟩
theorem Fr3.set {w w1 : World} {v v2 v3 : Value} {g r k : Nat} (h : Fr3 w w1 v v2 g v3) (hr : w.heap.size + 2 ≤ r) (hrg : r ≠ g) (x : Value) : Fr3 w (w1.setCell ⟨r, k, none⟩ x) v v2 g v3 := by
  have gr := grown_set w1 ⟨r, k, none⟩ x
  obtain ⟨h1, ⟨h2, h3⟩, h4, h5⟩ := h
  have hb : (w1.setCell ⟨r, k, none⟩ x).heap[g]? = w1.heap[g]? := gr.block g h5 (by simpa using fun e => hrg e.symm)
  refine ⟨h1.grown gr hr, ⟨?_, ?_⟩, h4, Nat.lt_of_lt_of_le h5 gr.size⟩
  · rw [World.cell?_of_block (w := w1) hb]; exact h2
  · rw [World.frozen?_of_block (w := w1) hb]; exact h3
theorem Fr3.start {w w1 : World} {v v2 v3 : Value} (h : Fr w w1 v v2) (T : TypeId) : Fr3 w (w1.alloc (.cells #[v3] T)) v v2 w1.heap.size v3 := by
  have hg := heap_alloc_new w1 (.cells #[v3] T)
  refine ⟨h.alloc _, ⟨?_, ?_⟩, h.2.2.1, by simp⟩
  · rw [cell_of_row _ _ _ _ _ _ hg]; rfl
  · exact frozen_of_row _ _ _ _ _ hg

set_option maxHeartbeats 3200000 in
theorem l3Turn_any (W : Nat) (vs : List Int) (A : Option Addr) (c n : Nat) (w : World) (h : SS w A (eng W vs)) (h1 : 1 ≤ W) (h12 : W ≤ 12) (hn : vs.length = n) (hn1 : 1 ≤ n) (hn7 : n ≤ 7) :
    Calls Try.prog 101 #[.agg #[.slice A n c]] w fun e w' => RetE 9 w.heap.size w (eng W (manyV vs 1)) e w' := by
  have Hh := hd h
  have Hel : Hid ((eng W vs).length = n) := hd (by rw [eng_length, hn])
  obtain ⟨us, Hus⟩ : ∃ us, Hid (manyV vs 1 = us) := ⟨_, hd rfl⟩
  rw [Hus.out]
  have Hul : Hid (us.length = vs.length) := hd (by rw [← Hus.out, manyV_length])
  have Hn := hd hn
  have F0 := hd (Fr.start w (.slice A n c) (.slice none 0 0) 31 31)
  clear h hn
  go_enter Try.func101, Try.ntmps101
  go_wp2_with fail
  refine (l3Copy_any A c n (eng W vs) _ ((Hh.out.alloc _).alloc _) Hel.out hn1 (by omega)).mono ?_
  rintro e w1 ⟨A1, c1, rfl, own1, b1⟩
  obtain ⟨g, hA1, hg1, hg2⟩ := own1.addr (by rw [Hel.out]; omega)
  subst hA1
  have hg3 : w.heap.size + 2 ≤ g := by simpa using hg1
  have F1 := hd (F0.out.below b1)
  have Own1 := hd (own1.low (B' := w.heap.size + 2) (by simp))
  rw [Hel.out]
  clear own1 b1 hg1
  have F3 := hd (Fr3.start (v3 := .slice (some ⟨g, 0, none⟩) n c1) F1.out 31)
  have Own1 := hd (Own1.out.alloc (.cells #[.slice (some ⟨g, 0, none⟩) n c1] 31))
  have hgo : g ≠ w1.heap.size := by omega
  go_wp2
  go_loopw [4] (fun i wr => ∃ k : Nat, k + 1 ≤ n ∧ i = .int .i64 k ∧ Fr3 w wr (.slice A n c) (.slice none 0 0) w1.heap.size (.slice (some ⟨g, 0, none⟩) n c1) ∧ OwnS 9 (w.heap.size + 2) wr (some ⟨g, 0, none⟩) c1 (eng W (mixV us vs k)))
    (fun i _ => n - (intOf i).toNat)
  case atStart => exact ⟨0, by omega, rfl, F3.out, by rw [mixV_zero]; exact Own1.out⟩
  case round =>
    clear F3 Own1 F1
    obtain ⟨k, hk, rfl, fr, own⟩ := hrel
    have Fr_ := hd fr
    have Own := hd own
    clear fr own
    obtain ⟨⟨⟨q1, q2⟩, ⟨q3, q4⟩, q5, Bel⟩, ⟨q6, q7⟩, q8, q9⟩ := Fr_.out
    by_cases hlt : k + 1 < n
    · have hn := Hn.out
      obtain ⟨x, Hx⟩ : ∃ x, Hid (vs[k]? = some x) := ⟨vs[k], hd (List.getElem?_eq_getElem (by omega))⟩
      obtain ⟨y, Hy⟩ : ∃ y, Hid (vs[k + 1]? = some y) := ⟨vs[k + 1], hd (List.getElem?_eq_getElem (by omega))⟩
      clear hn
      obtain ⟨s1, b, off, hs1, rfl, hb, hc1⟩ := (Hh.out.below Bel).at_ (k := k) (by rw [Hel.out]; omega)
      obtain ⟨s2, b', off', hs2, he, hb', hc2⟩ := (Hh.out.below Bel).at_ (k := k + 1) (by rw [Hel.out]; omega)
      simp only [Option.some.injEq, Addr.mk.injEq, and_true] at he
      obtain ⟨rfl, rfl⟩ := he
      obtain rfl : s1 = showC W x := by rw [eng_at Hx.out] at hs1; injection hs1 with hs1; exact hs1.symm
      obtain rfl : s2 = showC W y := by rw [eng_at Hy.out] at hs2; injection hs2 with hs2; exact hs2.symm
      clear hs1 hs2
      have Hlx : Hid (k < (eng W (mixV us vs k)).length) := hd (by rw [eng_length, mixV_length Hul.out, Hn.out]; omega)
      have e1 : IntKind.i64.wrap ((k : Int) + 1) = (k : Int) + 1 := IntWalk.i64_in _ (by omega)
      have e2 : ((k : Int) + 1).toNat = k + 1 := by omega
      have e3 : (0 : Int) ≤ (k : Int) + 1 := by omega
      have e4 : (k : Int) + 1 < n := by omega
      have e5 : k < n := by omega
      go_wp2
      go_region_law ((go_simp; go_at_call 86; refine (l3Plus_c W x y _ h1 h12).mono ?_; rintro e w2 ⟨rfl, b2⟩; have Own2 := hd (Own.out.drew.below b2); have Fr2 := hd (Fr_.out.drew.below b2); obtain ⟨g', o, ho, hg', hco, hfo⟩ := Own2.out.at_ (k := k) Hlx.out; simp only [Option.some.injEq, Addr.mk.injEq, and_true] at hg'; subst hg'; obtain ⟨⟨⟨p1, p2⟩, ⟨p3, p4⟩, -, -⟩, ⟨p6, p7⟩, -, -⟩ := Fr2.out; clear b2 ho))
      all_goals
        clear e1 e2 e3 e4 e5 q1 q2 q3 q4 q5 q6 q7 q8 q9 p1 p2 p3 p4 p6 p7
        have Own3 := hd (Own2.out.set k (showC W (x + y)))
        have Fr3_ := hd (Fr2.out.set (k := k) hg3 hgo (.string (showC W (x + y))))
        have Hnx : Hid ((eng W (mixV us vs k)).set k (showC W (x + y)) = eng W (mixV us vs (k + 1))) := hd (by
          rw [eng_set, mixV_set Hul.out (by rw [← Hus.out]; exact manyV_one_at Hx.out Hy.out)])
        go_wp2
        go_roundw
        case rel => exact ⟨k + 1, by omega, by go_num, Fr3_.out, by rw [← Hnx.out]; exact Own3.out⟩
        case measure => simp [intOf]; omega
    · have Hf : Hid (mixV us vs k = us) := hd (by
        have hn := Hn.out
        rw [← mixV_same Hul.out (by rw [← Hus.out]; exact manyV_last 1 (by omega)) (by omega)]
        exact mixV_full Hul.out (by omega))
      have Hl2 : Hid ((eng W us).length = n) := hd (by rw [eng_length, Hul.out, Hn.out])
      rw [Hf.out] at Own
      have Ow2 := hd ((Own.out.keep_lo (grown_set wr ⟨w.heap.size + 1, 0, none⟩ (.slice (some ⟨g, 0, none⟩) n c1)) (fun r hr => by simp at hr; omega)).low (show w.heap.size ≤ w.heap.size + 2 by omega))
      go_wp2
      refine bodyPost_ret (v := .agg #[.slice (some ⟨g, 0, none⟩) n c1]) ?_ rfl (RetE.own Ow2.out Hl2.out.symm (Fr_.out.1.done _))
      simp [results, Try.results101, q3, go_sem]

end Go.Proofs.Ytcalheieakppmaa
