/- The contracts of both sides' TurnMany, for whatever comes in. -/
import Derived.Test.YtkmblobfamhoiaaGrE
import Derived.Test.YtkmblobfamhoiaaGrG
import Derived.Test.YtkmblobfamhoiaaSpeV
namespace Go.Proofs.Ytkmblobfamhoiaa
open Go.RowKit
set_option maxRecDepth 4000

/-- N turns of an engine, where N is in range. -/
def manyF (N : Int) (cs : List ByteArray) : Option (List ByteArray) := if inB N 300 then turnF (manyV · N) cs else none
theorem manyF_inv {N : Int} {cs : List ByteArray} (h : engV cs = false) : manyF N cs = none := by rw [manyF, turnF_none h, ite_self]
theorem manyF_out {N : Int} {cs : List ByteArray} (h : inB N 300 = false) : manyF N cs = none := by rw [manyF, h]; rfl
theorem manyF_some {N : Int} {cs : List ByteArray} (h : engV cs = true) (hi : inB N 300 = true) : manyF N cs = some (eng (hsz cs) (manyV (cvs cs) N)) := by rw [manyF, if_pos hi, turnF_some h]

theorem within300 (N : Int) (b : Bool) (w : World) (h : inB N 300 = b) : Calls Try.prog 94 #[.int .i64 N, .int .i64 300] w fun e w' => e = .returned (.bool b) ∧ w = w' := by
  subst h; exact within_any N 300 w (by decide) (by decide)
theorem in300 (N : Int) (b : Bool) (w : World) (h : inB N 300 = b) : Calls Try.prog 96 #[.int .i64 N, .int .i64 (-300), .int .i64 300] w fun e w' => e = .returned (.bool b) ∧ w = w' := by
  subst h; exact l1In_any N (-300) 300 w

set_option maxHeartbeats 800000 in
theorem TurnMany_any (A : Option Addr) (c n : Nat) (cs : List ByteArray) (N : Int) (w : World) (hn : cs.length = n) (h : SS w A cs) (hs : Short cs) :
    Calls Try.prog 38 #[.agg #[.slice A n c], .int .i64 N] w fun e w' => RetEO 9 w.heap.size w (manyF N cs) e w' := by
  have Hh := hd h
  have Hs := hd hs
  have HN := hd hn
  have F0 := hd (Fr.start w (.slice A n c) (.slice none 0 0) 36 36)
  clear h hs hn
  cases hv : engV cs
  · have Hf : Hid (manyF N cs = none) := hd (manyF_inv hv)
    have Hv := hd hv
    clear hv
    go_enter Try.func38, Try.ntmps38
    go_wp2_with fail
    refine (EngineValid_b _ A c cs false _ HN.out ((Hh.out.alloc _).alloc _) Hs.out Hv.out).mono ?_
    rintro e w1 ⟨rfl, b1⟩
    have F1 := hd (F0.out.below b1)
    obtain ⟨⟨c1, f1⟩, ⟨c2, f2⟩, -, -⟩ := F1.out
    clear b1
    go_wp2
    exact bodyPost_ret (v := .tuple #[.agg #[.slice none 0 0], .bool false]) (by simp [results, Try.results38, c2, go_sem]) rfl (RetEO.none_ Hf.out (F1.out.done _))
  cases hi : inB N 300
  · have Hf : Hid (manyF N cs = none) := hd (manyF_out hi)
    have Hv := hd hv
    have Hi := hd hi
    clear hv hi
    go_enter Try.func38, Try.ntmps38
    go_wp2_with fail
    refine (EngineValid_b _ A c cs true _ HN.out ((Hh.out.alloc _).alloc _) Hs.out Hv.out).mono ?_
    rintro e w1 ⟨rfl, b1⟩
    have F1 := hd (F0.out.below b1)
    obtain ⟨⟨c1, f1⟩, ⟨c2, f2⟩, -, -⟩ := F1.out
    clear b1
    go_wp2_with fail
    refine (within300 N false _ Hi.out).mono ?_
    rintro e w2 ⟨rfl, rfl⟩
    go_wp2
    exact bodyPost_ret (v := .tuple #[.agg #[.slice none 0 0], .bool false]) (by simp [results, Try.results38, c2, go_sem]) rfl (RetEO.none_ Hf.out (F1.out.done _))
  · have Hf := hd (manyF_some hv hi)
    obtain ⟨he, hW1, hW12, hn1, hn7⟩ := engV_vals hv
    have Hl : Hid ((cvs cs).length = n) := hd (by rw [← HN.out]; simp [cvs])
    obtain ⟨W, hW⟩ : ∃ W, W = hsz cs := ⟨_, rfl⟩
    obtain ⟨vs, hvs⟩ : ∃ vs, vs = cvs cs := ⟨_, rfl⟩
    rw [← hW, ← hvs] at he Hf
    rw [← hW] at hW1 hW12
    rw [← hvs] at hn1 hn7 Hl
    have He := hd he
    have Hv := hd hv
    have Hi := hd hi
    have hb : -300 ≤ N ∧ N ≤ 300 := by simpa [inB] using hi
    obtain ⟨hb1, hb2⟩ := hb
    rw [Hl.out] at hn1 hn7
    have Hml : Hid ((eng W (manyV vs N)).length = n) := hd (by rw [eng_length, manyV_length, Hl.out])
    clear he hv hW hvs hi
    go_enter Try.func38, Try.ntmps38
    go_wp2_with fail
    refine (EngineValid_b _ A c cs true _ HN.out ((Hh.out.alloc _).alloc _) Hs.out Hv.out).mono ?_
    rintro e w1 ⟨rfl, b1⟩
    have F1 := hd (F0.out.below b1)
    have S1 : Hid (SS w1 A (eng W vs)) := hd (by rw [← He.out]; exact (Hh.out.below F1.out.2.2.2))
    obtain ⟨⟨c1, f1⟩, ⟨c2, f2⟩, -, -⟩ := F1.out
    clear b1
    go_wp2_with fail
    refine (within300 N true _ Hi.out).mono ?_
    rintro e w2 ⟨rfl, rfl⟩
    go_wp2_with fail
    refine (turnedMany_any W vs N A c n _ S1.out hW1 hW12 Hl.out hn1 hn7 (by omega) (by omega)).mono ?_
    rintro e w2 ⟨A2, c3, rfl, own2, b2⟩
    rw [Hml.out]
    have F2 := hd (F1.out.below b2)
    have Own := hd (own2.keep_lo (grown_set w2 ⟨w.heap.size + 1, 0, none⟩ (.slice A2 n c3)) (fun r hr => by simp at hr; have := F1.out.2.2.1; omega))
    have hszz : w.heap.size ≤ w1.heap.size := F1.out.2.2.2.size
    clear c1 f1 c2 f2
    obtain ⟨⟨c1, f1⟩, ⟨c2, f2⟩, -, -⟩ := F2.out
    clear b2 own2
    go_wp2
    exact bodyPost_ret (v := .tuple #[.agg #[.slice A2 n c3], .bool true]) (by simp [results, Try.results38, c2, go_sem]) rfl (RetEO.some_ Hf.out (Own.out.low hszz) Hml.out.symm (F2.out.done _))

set_option maxHeartbeats 800000 in
theorem sTurnMany_any (A : Option Addr) (c n : Nat) (cs : List ByteArray) (N : Int) (w : World) (hn : cs.length = n) (h : SS w A cs) (hs : Short cs) :
    Calls Try.prog 39 #[.agg #[.slice A n c], .int .i64 N] w fun e w' => RetEO 9 w.heap.size w (manyF N cs) e w' := by
  have Hh := hd h
  have Hs := hd hs
  have HN := hd hn
  have F0 := hd (Fr.start w (.slice A n c) (.slice none 0 0) 36 36)
  clear h hs hn
  cases hv : engV cs
  · have Hf : Hid (manyF N cs = none) := hd (manyF_inv hv)
    have Hv := hd hv
    clear hv
    go_enter Try.func39, Try.ntmps39
    go_wp2_with fail
    refine (sEngineValid_b _ A c cs false _ HN.out ((Hh.out.alloc _).alloc _) Hs.out Hv.out).mono ?_
    rintro e w1 ⟨rfl, b1⟩
    have F1 := hd (F0.out.below b1)
    obtain ⟨⟨c1, f1⟩, ⟨c2, f2⟩, -, -⟩ := F1.out
    clear b1
    go_wp2
    exact bodyPost_ret (v := .tuple #[.agg #[.slice none 0 0], .bool false]) (by simp [results, Try.results39, c2, go_sem]) rfl (RetEO.none_ Hf.out (F1.out.done _))
  cases hi : inB N 300
  · have Hf : Hid (manyF N cs = none) := hd (manyF_out hi)
    have Hv := hd hv
    have Hi := hd hi
    clear hv hi
    go_enter Try.func39, Try.ntmps39
    go_wp2_with fail
    refine (sEngineValid_b _ A c cs true _ HN.out ((Hh.out.alloc _).alloc _) Hs.out Hv.out).mono ?_
    rintro e w1 ⟨rfl, b1⟩
    have F1 := hd (F0.out.below b1)
    obtain ⟨⟨c1, f1⟩, ⟨c2, f2⟩, -, -⟩ := F1.out
    clear b1
    go_wp2_with fail
    refine (in300 N false _ Hi.out).mono ?_
    rintro e w2 ⟨rfl, rfl⟩
    go_wp2
    exact bodyPost_ret (v := .tuple #[.agg #[.slice none 0 0], .bool false]) (by simp [results, Try.results39, c2, go_sem]) rfl (RetEO.none_ Hf.out (F1.out.done _))
  · have Hf := hd (manyF_some hv hi)
    obtain ⟨he, hW1, hW12, hn1, hn7⟩ := engV_vals hv
    have Hl : Hid ((cvs cs).length = n) := hd (by rw [← HN.out]; simp [cvs])
    obtain ⟨W, hW⟩ : ∃ W, W = hsz cs := ⟨_, rfl⟩
    obtain ⟨vs, hvs⟩ : ∃ vs, vs = cvs cs := ⟨_, rfl⟩
    rw [← hW, ← hvs] at he Hf
    rw [← hW] at hW1 hW12
    rw [← hvs] at hn1 hn7 Hl
    have He := hd he
    have Hv := hd hv
    have Hi := hd hi
    have hb : -300 ≤ N ∧ N ≤ 300 := by simpa [inB] using hi
    obtain ⟨hb1, hb2⟩ := hb
    rw [Hl.out] at hn1 hn7
    have Hml : Hid ((eng W (manyV vs N)).length = n) := hd (by rw [eng_length, manyV_length, Hl.out])
    clear he hv hW hvs hi
    go_enter Try.func39, Try.ntmps39
    go_wp2_with fail
    refine (sEngineValid_b _ A c cs true _ HN.out ((Hh.out.alloc _).alloc _) Hs.out Hv.out).mono ?_
    rintro e w1 ⟨rfl, b1⟩
    have F1 := hd (F0.out.below b1)
    have S1 : Hid (SS w1 A (eng W vs)) := hd (by rw [← He.out]; exact (Hh.out.below F1.out.2.2.2))
    obtain ⟨⟨c1, f1⟩, ⟨c2, f2⟩, -, -⟩ := F1.out
    clear b1
    go_wp2_with fail
    refine (in300 N true _ Hi.out).mono ?_
    rintro e w2 ⟨rfl, rfl⟩
    go_wp2_with fail
    refine (l3Many_any W vs N A c n _ S1.out hW1 hW12 Hl.out hn1 hn7 (by omega) (by omega)).mono ?_
    rintro e w2 ⟨A2, c3, rfl, own2, b2⟩
    rw [Hml.out]
    have F2 := hd (F1.out.below b2)
    have Own := hd (own2.keep_lo (grown_set w2 ⟨w.heap.size + 1, 0, none⟩ (.slice A2 n c3)) (fun r hr => by simp at hr; have := F1.out.2.2.1; omega))
    have hszz : w.heap.size ≤ w1.heap.size := F1.out.2.2.2.size
    clear c1 f1 c2 f2
    obtain ⟨⟨c1, f1⟩, ⟨c2, f2⟩, -, -⟩ := F2.out
    clear b2 own2
    go_wp2
    exact bodyPost_ret (v := .tuple #[.agg #[.slice A2 n c3], .bool true]) (by simp [results, Try.results39, c2, go_sem]) rfl (RetEO.some_ Hf.out (Own.out.low hszz) Hml.out.symm (F2.out.done _))

end Go.Proofs.Ytkmblobfamhoiaa
