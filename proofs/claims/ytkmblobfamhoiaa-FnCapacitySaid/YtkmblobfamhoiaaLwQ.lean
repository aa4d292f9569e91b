/- The results of engines that run: of whole turns, of halved turns of the engine askew. -/
import Derived.Test.YtkmblobfamhoiaaEngN
import Derived.Test.YtkmblobfamhoiaaSpeZ
import Derived.Test.YtkmblobfamhoiaaSpeW
namespace Go.Proofs.Ytkmblobfamhoiaa
open Go.RowKit
set_option maxRecDepth 4000

theorem iterF_many (vs : List Int) : ∀ i : Nat, iterF (manyV · 1) i vs = manyV vs i
  | 0 => (manyV_zero vs).symm
  | i + 1 => by
    rw [iterF_succ, iterF_many vs i]
    show manyV (manyV vs i) 1 = _
    rw [manyV_manyV]
    congr 1
    omega
theorem iterF_halves (us : List Int) : ∀ i : Nat, iterF halvesV i (skewV us) = skewV (manyV us i)
  | 0 => by
    show skewV us = skewV (manyV us ((0 : Nat) : Int))
    rw [show ((0 : Nat) : Int) = 0 from rfl, manyV_zero]
  | i + 1 => by
    rw [iterF_succ, iterF_halves us i, halvesV, halves_skew, manyV_manyV]
    congr 2
    omega
theorem skew_head (vs : List Int) : (skewV vs).getD 0 0 = vs.getD 0 0 := by
  rw [skewV_getD]
  show val vs 0 = _
  exact val_head vs

theorem Same.iter {f : List Int → List Int} (hs : ∀ W a b, Same W a b → Same W (f a) (f b)) {W : Nat} : ∀ (i : Nat) {a b : List Int}, Same W a b → Same W (iterF f i a) (iterF f i b)
  | 0, _, _, h => h
  | i + 1, _, _, h => Same.iter hs i (hs W _ _ h)

theorem run_eng {f : List Int → List Int} (hs : ∀ W a b, Same W a b → Same W (f a) (f b)) {W K : Nat} {vs : List Int} (h1 : 1 ≤ W) (h12 : W ≤ 12) (hn1 : 1 ≤ vs.length) (hn7 : vs.length ≤ 7) (hK : K ≤ 60) :
    runF f K (eng W vs) = some (tab K fun i => sgn W ((iterF f i vs).getD 0 0)) := by
  rw [runF_some (engV_eng h1 h12 hn1 hn7) (by omega) (by omega), hsz_eng hn1, Int.toNat_natCast]
  congr 1
  exact tab_congr fun i _ => sgn_congr ((Same.iter hs i (same_cvs W vs)).2 0)

theorem run_vals {f : List Int → List Int} {cs : List ByteArray} {r : List Int} {N : Int} (h : runF f N cs = some r) : engV cs = true ∧ 0 ≤ N ∧ N ≤ 60 ∧ r = tab N.toNat fun i => sgn (hsz cs) ((iterF f i (cvs cs)).getD 0 0) := by
  unfold runF at h
  split at h
  · rename_i hc
    simp only [Bool.and_eq_true, decide_eq_true_eq] at hc
    injection h with h
    exact ⟨hc.1, hc.2.1, hc.2.2, h.symm⟩
  · cases h

/-- An engine that turns in halves has the results of the engine that is set up askew to it. -/
theorem run_unsk {cs : List ByteArray} {r : List Int} {N : Int} (h : runF halvesV N cs = some r) :
    turnF unskV cs = some (eng (hsz cs) (unskV (cvs cs))) ∧ runF (manyV · 1) N (eng (hsz cs) (unskV (cvs cs))) = some r ∧ engV (eng (hsz cs) (unskV (cvs cs))) = true := by
  obtain ⟨hv, h0, h60, rfl⟩ := run_vals h
  obtain ⟨he, h1, h12, hn1, hn7⟩ := engV_vals hv
  obtain ⟨K, rfl⟩ := Int.eq_ofNat_of_zero_le h0
  refine ⟨turnF_some hv, ?_, engV_eng h1 h12 (by rw [unskV_length]; exact hn1) (by rw [unskV_length]; exact hn7)⟩
  rw [run_eng (f := (manyV · 1)) (fun _ _ _ h => h.many 1) h1 h12 (by rw [unskV_length]; exact hn1) (by rw [unskV_length]; exact hn7) (by omega), Int.toNat_natCast]
  congr 1
  refine tab_congr fun i _ => ?_
  rw [iterF_many]
  have e : iterF halvesV i (cvs cs) = skewV (manyV (unskV (cvs cs)) i) := by
    rw [← iterF_halves, skew_unsk]
  rw [e, skew_head]

/-- The engine askew that turns in halves has the same results. -/
theorem run_skew {cs : List ByteArray} {r : List Int} {N : Int} (h : runF (manyV · 1) N cs = some r) :
    turnF skewV cs = some (eng (hsz cs) (skewV (cvs cs))) ∧ runF halvesV N (eng (hsz cs) (skewV (cvs cs))) = some r ∧ engV (eng (hsz cs) (skewV (cvs cs))) = true := by
  obtain ⟨hv, h0, h60, rfl⟩ := run_vals h
  obtain ⟨he, h1, h12, hn1, hn7⟩ := engV_vals hv
  obtain ⟨K, rfl⟩ := Int.eq_ofNat_of_zero_le h0
  refine ⟨turnF_some hv, ?_, engV_eng h1 h12 (by rw [skewV_length]; exact hn1) (by rw [skewV_length]; exact hn7)⟩
  rw [run_eng (f := halvesV) (fun _ _ _ h => (h.half 0).half 1) h1 h12 (by rw [skewV_length]; exact hn1) (by rw [skewV_length]; exact hn7) (by omega), Int.toNat_natCast]
  congr 1
  refine tab_congr fun i _ => ?_
  rw [iterF_many, iterF_halves, skew_head]

/-- Each result is what the engine shows after so many turns. -/
theorem run_shows {cs : List ByteArray} {r : List Int} {N : Int} (h : runF (manyV · 1) N cs = some r) {k : Nat} {x : Int} (hx : r[k]? = some x) :
    manyF k cs = some (eng (hsz cs) (manyV (cvs cs) k)) ∧ resF (eng (hsz cs) (manyV (cvs cs) k)) = (x, true) ∧ Short (eng (hsz cs) (manyV (cvs cs) k)) := by
  obtain ⟨hv, h0, h60, rfl⟩ := run_vals h
  obtain ⟨he, h1, h12, hn1, hn7⟩ := engV_vals hv
  obtain ⟨K, rfl⟩ := Int.eq_ofNat_of_zero_le h0
  rw [Int.toNat_natCast] at hx
  have hk : k < K := by
    rcases Nat.lt_or_ge k K with h | h
    · exact h
    · rw [List.getElem?_eq_none (by rw [tab_length]; exact h)] at hx; cases hx
  rw [tab_at _ hk, iterF_many] at hx
  injection hx with hx
  refine ⟨manyF_some hv (by simp [inB]; omega), ?_, short_eng h12 _⟩
  rw [res_eng h1 h12 (by rw [manyV_length]; exact hn1) (by rw [manyV_length]; exact hn7), hx]

theorem UnskewEngine_z (A : Option Addr) (c n : Nat) (cs z : List ByteArray) (ok : Bool) (w : World) (hn : cs.length = n) (h : SS w A cs) (hs : Short cs) (hz : (turnF unskV cs).getD [] = z ∧ (turnF unskV cs).isSome = ok) :
    Calls Try.prog 56 #[.agg #[.slice A n c]] w fun e w' => RetEB 9 w.heap.size w z ok e w' := by
  obtain ⟨rfl, rfl⟩ := hz
  subst hn
  exact UnskewEngine_any A c cs w h hs

end Go.Proofs.Ytkmblobfamhoiaa
