/- The contract of the reference's l3Many, for whatever comes in. -/
import Derived.Test.YtkmblobfamhoiaaGrG
import Derived.Test.YtkmblobfamhoiaaSpeQ
namespace Go.Proofs.Ytkmblobfamhoiaa
open Go.RowKit
set_option maxRecDepth 4000

theorem Fr3.put {w w1 : World} {v v2 v3 : Value} {g : Nat} (h : Fr3 w w1 v v2 g v3) (x : Value) : Fr3 w (w1.setCell ⟨g, 0, none⟩ x) v v2 g x := by
  have gr := grown_set w1 ⟨g, 0, none⟩ x
  obtain ⟨h1, ⟨h2, h3⟩, h4, h5⟩ := h
  exact ⟨h1.grown gr h4, ⟨World.cell?_setCell_same' _ _ _ (by rw [h2]; rfl), by rw [World.frozen?_setCell]; exact h3⟩, h4, Nat.lt_of_lt_of_le h5 gr.size⟩

set_option maxHeartbeats 1600000 in
theorem l3Many_any (W : Nat) (vs : List Int) (N : Int) (A : Option Addr) (c n : Nat) (w : World) (h : SS w A (eng W vs)) (h1 : 1 ≤ W) (h12 : W ≤ 12) (hn : vs.length = n) (hn1 : 1 ≤ n) (hn7 : n ≤ 7) (hN1 : -1000 ≤ N) (hN2 : N ≤ 1000) :
    Calls Try.prog 97 #[.agg #[.slice A n c], .int .i64 N] w fun e w' => RetE 9 w.heap.size w (eng W (manyV vs N)) e w' := by
  have Hh := hd h
  have Hel : Hid ((eng W vs).length = n) := hd (by rw [eng_length, hn])
  have Hn := hd hn
  have F0 := hd (Fr.start w (.slice A n c) (.slice none 0 0) 36 36)
  clear h hn
  go_enter Try.func97, Try.ntmps97
  go_wp2_with fail
  refine (l3Copy_any A c n (eng W vs) _ ((Hh.out.alloc _).alloc _) Hel.out hn1 (by omega)).mono ?_
  rintro e w1 ⟨A1, c1, rfl, own1, b1⟩
  have F1 := hd (F0.out.below b1)
  have Own1 : Hid (OwnS 9 (w.heap.size + 2) w1 A1 c1 (eng W (manyV vs 0))) := hd (by rw [manyV_zero]; exact own1.low (B' := w.heap.size + 2) (by simp))
  rw [Hel.out]
  clear own1 b1
  have F3 := hd (Fr3.start (v3 := .slice A1 n c1) F1.out 36)
  have Own1 := hd (Own1.out.alloc (.cells #[.slice A1 n c1] 36))
  go_wp2
  go_loopw [6] (fun i wr => ∃ (k : Nat) (A' : Option Addr) (c' : Nat), ((k : Int) ≤ N ∨ k = 0) ∧ i = .int .i64 k ∧ Fr3 w wr (.slice A n c) (.slice none 0 0) w1.heap.size (.slice A' n c') ∧ OwnS 9 (w.heap.size + 2) wr A' c' (eng W (manyV vs k)))
    (fun i _ => N.toNat - (intOf i).toNat)
  case atStart => exact ⟨0, A1, c1, .inr rfl, rfl, F3.out, Own1.out⟩
  case round =>
    clear F3 Own1 F1
    obtain ⟨k, A', c', hk, rfl, f, own⟩ := hrel
    have Own := hd own
    have F := hd f
    have Hk := hd hk
    have hk1000 : (k : Int) ≤ 1000 := by rcases hk with h | h <;> omega
    clear own f hk
    by_cases hpos : (k : Int) < N
    · obtain ⟨⟨⟨d1, f1⟩, ⟨d2, f2⟩, -, -⟩, ⟨d3, f3⟩, -⟩ := F.out
      have hsz2 : w.heap.size + 2 ≤ wr.heap.size := F.out.1.2.2.1
      go_wp2_with fail
      refine (l3Turn_any W (manyV vs k) A' c' n _ Own.out.sg h1 h12 (by rw [manyV_length]; exact Hn.out) hn1 hn7).mono ?_
      rintro e w2 ⟨A2, c2, rfl, own2, b2⟩
      clear d1 f1 d2 f2 d3 f3
      have Hl2 : Hid ((eng W (manyV (manyV vs k) 1)).length = n) := hd (by rw [eng_length, manyV_length, manyV_length, Hn.out])
      have Own2 : Hid (OwnS 9 (w.heap.size + 2) (w2.setCell ⟨w1.heap.size, 0, none⟩ (.slice A2 n c2)) A2 c2 (eng W (manyV vs ((k + 1 : Nat) : Int)))) := hd (by
        have := (own2.keep_lo (grown_set w2 ⟨w1.heap.size, 0, none⟩ (.slice A2 n c2)) (fun r hr => by simp at hr; have := F.out.2.2.2; omega)).low hsz2
        rwa [manyV_manyV, show 1 + (k : Int) = ((k + 1 : Nat) : Int) by omega] at this)
      have Fa := hd (F.out.below b2)
      have Fb := hd (Fa.out.put (.slice A2 n c2))
      rw [Hl2.out]
      obtain ⟨⟨⟨d1, f1⟩, ⟨d2, f2⟩, -, -⟩, ⟨d3, f3⟩, -⟩ := Fa.out
      clear own2 b2
      go_wp2
      go_roundw
      case rel => exact ⟨k + 1, A2, c2, .inl (by omega), by go_num, Fb.out, Own2.out⟩
      case measure => simp [intOf] <;> omega
    · have hk0 : (0 < N ∧ (k : Int) = N) ∨ (N ≤ 0 ∧ k = 0) := by have := Hk.out; omega
      have Hk0 := hd hk0
      have hN : -N ≤ 1000 := by omega
      have hN' : -1000 ≤ -N := by omega
      clear Hk hk0
      go_wp2
      go_loopw [7] (fun i wr => ∃ (l : Nat) (A' : Option Addr) (c' : Nat), ((l : Int) ≤ -N ∨ l = 0) ∧ i = .int .i64 l ∧ Fr3 w wr (.slice A n c) (.slice none 0 0) w1.heap.size (.slice A' n c') ∧ OwnS 9 (w.heap.size + 2) wr A' c' (eng W (manyV vs ((k : Int) - l))))
        (fun i _ => (-N).toNat - (intOf i).toNat)
      case atStart => exact ⟨0, A', c', .inr rfl, rfl, F.out, by simpa using Own.out⟩
      case round =>
        clear F Own
        obtain ⟨l, A', c', hl, rfl, f, own⟩ := hrel
        have Own := hd own
        have F := hd f
        have Hl := hd hl
        have hl1000 : (l : Int) ≤ 1000 := by rcases hl with h | h <;> omega
        clear own f hl
        obtain ⟨⟨⟨d1, f1⟩, ⟨d2, f2⟩, -, -⟩, ⟨d3, f3⟩, -⟩ := F.out
        by_cases hneg : (l : Int) < -N
        · have hsz2 : w.heap.size + 2 ≤ wr.heap.size := F.out.1.2.2.1
          go_wp2_with fail
          refine (l3Undo_any W (manyV vs ((k : Int) - l)) A' c' n _ Own.out.sg h1 h12 (by rw [manyV_length]; exact Hn.out) hn1 hn7).mono ?_
          rintro e w2 ⟨A2, c2, rfl, own2, b2⟩
          clear d1 f1 d2 f2 d3 f3
          have Hl2 : Hid ((eng W (manyV (manyV vs ((k : Int) - l)) (-1))).length = n) := hd (by rw [eng_length, manyV_length, manyV_length, Hn.out])
          have Own2 : Hid (OwnS 9 (w.heap.size + 2) (w2.setCell ⟨w1.heap.size, 0, none⟩ (.slice A2 n c2)) A2 c2 (eng W (manyV vs ((k : Int) - ((l + 1 : Nat) : Int))))) := hd (by
            have := (own2.keep_lo (grown_set w2 ⟨w1.heap.size, 0, none⟩ (.slice A2 n c2)) (fun r hr => by simp at hr; have := F.out.2.2.2; omega)).low hsz2
            rwa [manyV_manyV, show -1 + ((k : Int) - l) = (k : Int) - ((l + 1 : Nat) : Int) by omega] at this)
          have Fa := hd (F.out.below b2)
          have Fb := hd (Fa.out.put (.slice A2 n c2))
          rw [Hl2.out]
          obtain ⟨⟨⟨d1, f1⟩, ⟨d2, f2⟩, -, -⟩, ⟨d3, f3⟩, -⟩ := Fa.out
          clear own2 b2
          go_wp2
          go_roundw
          case rel => exact ⟨l + 1, A2, c2, .inl (by omega), by go_num, Fb.out, Own2.out⟩
          case measure => simp [intOf] <;> omega
        · have hkl : (k : Int) - l = N := by have h1 := Hk0.out; have h2 := Hl.out; omega
          have Own2 : Hid (OwnS 9 (w.heap.size + 2) (wr.setCell ⟨w.heap.size + 1, 0, none⟩ (.slice A' n c')) A' c' (eng W (manyV vs N))) := hd (by
            rw [← hkl]
            exact Own.out.keep_lo (grown_set wr ⟨w.heap.size + 1, 0, none⟩ (.slice A' n c')) (fun r hr => by simp at hr; omega))
          have Hl2 : Hid ((eng W (manyV vs N)).length = n) := hd (by rw [eng_length, manyV_length, Hn.out])
          clear hkl
          go_wp2
          exact bodyPost_ret (v := .agg #[.slice A' n c']) (by simp [results, Try.results97, d2, go_sem]) rfl (RetE.own (Own2.out.low (by omega)) Hl2.out.symm (F.out.1.done _))

end Go.Proofs.Ytkmblobfamhoiaa
