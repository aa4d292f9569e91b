/- Adding two engines before or after turns, and before or after setting them up askew, gives the same. -/
import Derived.Test.YtkmblobfamhoiaaLwN
import Derived.Test.YtkmblobfamhoiaaSpeW
namespace Go.Proofs.Ytkmblobfamhoiaa
open Go.RowKit
set_option maxRecDepth 4000

theorem Same.plus {W : Nat} {a b a' b' : List Int} (h : Same W a a') (k : Same W b b') : Same W (plusV a b) (plusV a' b') := by
  refine ⟨by rw [plusV_length, plusV_length, h.1], fun i => ?_⟩
  by_cases hi : i < a.length
  · have e1 : (plusV a b)[i]? = some (a.getD i 0 + b.getD i 0) := tab_at _ hi
    have e2 : (plusV a' b')[i]? = some (a'.getD i 0 + b'.getD i 0) := tab_at _ (by rw [← h.1]; exact hi)
    rw [getD_at e1, getD_at e2]
    exact add_mod2 (h.2 i) (k.2 i)
  · rw [getD_none (by rw [plusV_length]; omega), getD_none (by rw [plusV_length, ← h.1]; omega)]

theorem addF_is {cs ds z : List ByteArray} (h : addF cs ds = some z) : engV cs = true ∧ engV ds = true ∧ cs.length = ds.length ∧ hsz cs = hsz ds ∧ z = eng (hsz cs) (plusV (cvs cs) (cvs ds)) := by
  unfold addF at h
  split at h
  · rename_i hc
    simp only [Bool.and_eq_true, decide_eq_true_eq] at hc
    injection h with h
    exact ⟨hc.1, hc.2.1, hc.2.2.1, hc.2.2.2, h.symm⟩
  · cases h

theorem add_eng {W : Nat} {a b : List Int} (h1 : 1 ≤ W) (h12 : W ≤ 12) (ha1 : 1 ≤ a.length) (ha7 : a.length ≤ 7) (hab : a.length = b.length) : addF (eng W a) (eng W b) = some (eng W (plusV a b)) := by
  rw [addF_some (engV_eng h1 h12 ha1 ha7) (engV_eng h1 h12 (by omega) (by omega)) (by rw [eng_length, eng_length, hab]) (by rw [hsz_eng ha1, hsz_eng (by omega)]), hsz_eng ha1]
  congr 1
  exact eng_congr ((same_cvs W a).plus (same_cvs W b))

/-- What the law asks: the numbers W, a, b of two engines that can be added. -/
theorem add_laws {cs ds z : List ByteArray} (h : addF cs ds = some z) :
    ∃ (W : Nat) (a b : List Int), 1 ≤ W ∧ W ≤ 12 ∧ 1 ≤ a.length ∧ a.length ≤ 7 ∧ a.length = b.length ∧ cs = eng W a ∧ ds = eng W b ∧ z = eng W (plusV a b) ∧ engV cs = true ∧ engV ds = true ∧ engV z = true := by
  obtain ⟨hv, hw, hl, hz, rfl⟩ := addF_is h
  obtain ⟨he, h1, h12, hn1, hn7⟩ := engV_vals hv
  obtain ⟨he2, -, -, -, -⟩ := engV_vals hw
  have hab : (cvs cs).length = (cvs ds).length := by simp [cvs, hl]
  refine ⟨hsz cs, cvs cs, cvs ds, h1, h12, hn1, hn7, hab, he, by rw [hz]; exact he2, rfl, hv, hw, engV_eng h1 h12 (by rw [plusV_length]; exact hn1) (by rw [plusV_length]; exact hn7)⟩

theorem many_eng {W : Nat} {a : List Int} {n : Int} (h1 : 1 ≤ W) (h12 : W ≤ 12) (ha1 : 1 ≤ a.length) (ha7 : a.length ≤ 7) (hn : inB n 300 = true) : manyF n (eng W a) = some (eng W (manyV a n)) := by
  rw [manyF, if_pos hn, turn_eng n h1 h12 ha1 ha7]
theorem skew_eng {W : Nat} {a : List Int} (h1 : 1 ≤ W) (h12 : W ≤ 12) (ha1 : 1 ≤ a.length) (ha7 : a.length ≤ 7) : turnF skewV (eng W a) = some (eng W (skewV a)) := by
  rw [turnF_some (engV_eng h1 h12 ha1 ha7), hsz_eng ha1]
  congr 1
  exact eng_congr (same_cvs W a).skew

theorem add_turned {W : Nat} {a b : List Int} (n : Int) (h1 : 1 ≤ W) (h12 : W ≤ 12) (ha1 : 1 ≤ a.length) (ha7 : a.length ≤ 7) (hab : a.length = b.length) :
    addF (eng W (manyV a n)) (eng W (manyV b n)) = some (eng W (manyV (plusV a b) n)) := by
  rw [add_eng h1 h12 (by rw [manyV_length]; exact ha1) (by rw [manyV_length]; exact ha7) (by rw [manyV_length, manyV_length, hab]), many_plus hab]
theorem add_skewed {W : Nat} {a b : List Int} (h1 : 1 ≤ W) (h12 : W ≤ 12) (ha1 : 1 ≤ a.length) (ha7 : a.length ≤ 7) (hab : a.length = b.length) :
    addF (eng W (skewV a)) (eng W (skewV b)) = some (eng W (skewV (plusV a b))) := by
  rw [add_eng h1 h12 (by rw [skewV_length]; exact ha1) (by rw [skewV_length]; exact ha7) (by rw [skewV_length, skewV_length, hab]), skew_plus hab]
theorem add_back {W : Nat} {a b : List Int} (h1 : 1 ≤ W) (h12 : W ≤ 12) (ha1 : 1 ≤ a.length) (ha7 : a.length ≤ 7) (hab : a.length = b.length) : addF (eng W b) (eng W a) = some (eng W (plusV a b)) := by
  rw [add_eng h1 h12 (by omega) (by omega) hab.symm, plusV_comm hab.symm]

end Go.Proofs.Ytkmblobfamhoiaa
