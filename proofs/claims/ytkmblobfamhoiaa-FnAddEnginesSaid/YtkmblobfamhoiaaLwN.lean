/- What widening, setting up and reading do to the numbers that columns show. -/
import Derived.Test.YtkmblobfamhoiaaLwJ
import Derived.Test.YtkmblobfamhoiaaGrJ
import Derived.Test.YtkmblobfamhoiaaEngJ
import Derived.Test.YtkmblobfamhoiaaEngM
import Derived.Test.YtkmblobfamhoiaaSpeT
namespace Go.Proofs.Ytkmblobfamhoiaa
open Go.RowKit
set_option maxRecDepth 4000

theorem setE_is {us : List Int} {N : Int} {z : List ByteArray} (h : setE us N = some z) : ∃ W : Nat, N = W ∧ 1 ≤ W ∧ W ≤ 12 ∧ (∀ v ∈ us, fitsB v W = true) ∧ z = eng W us := by
  unfold setE at h
  split at h
  · rename_i hc
    simp only [Bool.and_eq_true, decide_eq_true_eq] at hc
    obtain ⟨⟨h1, h12⟩, hf⟩ := hc
    injection h with h
    exact ⟨N.toNat, by omega, by omega, by omega, fitsAll_iff.1 hf, h.symm⟩
  · cases h

theorem map_sgn_id {W : Nat} {us : List Int} (h1 : 1 ≤ W) (h : ∀ v ∈ us, fitsB v W = true) : us.map (sgn W) = us := by
  rw [List.map_congr_left (g := fun v => v) (fun v hv => sgn_of_fits h1 (h v hv)), List.map_id']

theorem sgn_cvs_eng (W : Nat) (us : List Int) : (cvs (eng W us)).map (sgn W) = us.map (sgn W) := by
  rw [cvs, eng, List.map_map, List.map_map]
  apply List.map_congr_left
  intro v _
  show sgn W (cval (showC W v)) = sgn W v
  rw [cval_showC]
  exact sgn_congr (Int.emod_emod_of_dvd _ (Int.dvd_refl _))

theorem same_cvs (W : Nat) (us : List Int) : Same W (cvs (eng W us)) us := by
  refine ⟨by simp [cvs, eng], fun i => ?_⟩
  by_cases hi : i < us.length
  · have e1 : us[i]? = some us[i] := List.getElem?_eq_getElem hi
    have e2 : (cvs (eng W us))[i]? = some (us[i] % ten W) := by
      rw [cvs, List.getElem?_map, eng_at e1, Option.map_some, cval_showC]
    rw [getD_at e2, getD_at e1, Int.emod_emod_of_dvd _ (Int.dvd_refl _)]
  · rw [getD_none (by rw [cvs, List.length_map, eng_length]; omega), getD_none (by omega)]

theorem turn_eng {W : Nat} {vs : List Int} (n : Int) (h1 : 1 ≤ W) (h12 : W ≤ 12) (hn1 : 1 ≤ vs.length) (hn7 : vs.length ≤ 7) :
    turnF (manyV · n) (eng W vs) = some (eng W (manyV vs n)) := by
  rw [turnF_some (engV_eng h1 h12 hn1 hn7), hsz_eng hn1]
  congr 1
  exact eng_congr ((same_cvs W vs).many n)

theorem res_eng {W : Nat} {vs : List Int} (h1 : 1 ≤ W) (h12 : W ≤ 12) (hn1 : 1 ≤ vs.length) (hn7 : vs.length ≤ 7) :
    resF (eng W vs) = (sgn W (vs.getD 0 0), true) := by
  rw [resF, if_pos (engV_eng h1 h12 hn1 hn7), hsz_eng hn1]
  congr 1
  exact sgn_congr ((same_cvs W vs).2 0)

theorem wid_back {cs z : List ByteArray} {N : Int} (hv : engV cs = true) (h : widF cs N = some z) :
    engV z = true ∧ widF z (hsz cs) = some cs ∧ readF z = readF cs := by
  obtain ⟨he, h1, h12, hn1, hn7⟩ := engV_vals hv
  rw [widF_some hv] at h
  obtain ⟨W', hN, hw1, hw12, hf, rfl⟩ := setE_is h
  have hl : 1 ≤ ((cvs cs).map (sgn (hsz cs))).length := by simpa using hn1
  have hl7 : ((cvs cs).map (sgn (hsz cs))).length ≤ 7 := by simpa using hn7
  have hvz := engV_eng hw1 hw12 hl hl7
  have hh := hsz_eng (W := W') hl
  have hu : (cvs (eng W' ((cvs cs).map (sgn (hsz cs))))).map (sgn (hsz (eng W' ((cvs cs).map (sgn (hsz cs)))))) = (cvs cs).map (sgn (hsz cs)) := by
    rw [hh, sgn_cvs_eng, map_sgn_id hw1 hf]
  refine ⟨hvz, ?_, ?_⟩
  · rw [widF_some hvz, hu, setE_some (by omega) (by omega) (fitsAll_iff.2 fun v hv' => ?_), Int.toNat_natCast, eng_sgn, ← he]
    rw [Int.toNat_natCast]
    obtain ⟨x, _, rfl⟩ := List.mem_map.1 hv'
    exact sgn_fits _ _ h1
  · rw [readF_some hvz, readF_some hv, hu]

theorem set_read {p : List Int} {z : List ByteArray} {n N : Int} (h : setF p n N = some z) :
    ∃ (q : List Int) (W : Nat), shiftP p n = some q ∧ N = W ∧ 1 ≤ W ∧ W ≤ 12 ∧ z = eng W q ∧ engV z = true ∧ (1 ≤ q.length ∧ q.length ≤ 7) ∧ readF z = some q ∧ resF z = (val p n, true) := by
  cases hs : shiftP p n with
  | none => rw [setF_none hs] at h; cases h
  | some q =>
    rw [setF_some hs] at h
    obtain ⟨W, hN, h1, h12, hf, rfl⟩ := setE_is h
    obtain ⟨hvp, hvq, hn, hq, hlq, hval⟩ := shiftP_some hs
    obtain ⟨hl1, hl7, -⟩ := validP_iff.1 hvq
    have hvz := engV_eng h1 h12 hl1 hl7
    refine ⟨q, W, rfl, hN, h1, h12, rfl, hvz, ⟨hl1, hl7⟩, ?_, ?_⟩
    · rw [readF_some hvz, hsz_eng hl1, sgn_cvs_eng, map_sgn_id h1 hf, chk_of hvq]
    · rw [res_eng h1 h12 hl1 hl7]
      congr 1
      have h0 := hval 0
      rw [val_head, Int.zero_add] at h0
      rw [← h0]
      refine sgn_of_fits h1 (hf _ ?_)
      have e1 : q[0]? = some (q[0]'(by omega)) := List.getElem?_eq_getElem (by omega)
      rw [getD_at e1]
      exact List.getElem_mem _

theorem shiftP_zero {p : List Int} (h : validP p = true) : shiftP p 0 = some p := by
  have e : (tab p.length fun k => val (p.drop k) 0) = p := manyV_zero p
  rw [shiftP, h, e, chk_of h]
  rfl

theorem read_set {cs : List ByteArray} {p : List Int} (h : readF cs = some p) : engV cs = true ∧ setF p 0 (hsz cs) = some cs := by
  cases hv : engV cs
  · rw [readF_none hv] at h; cases h
  · obtain ⟨he, h1, h12, hn1, hn7⟩ := engV_vals hv
    rw [readF_some hv] at h
    obtain ⟨rfl, hp⟩ := chk_some h
    refine ⟨rfl, ?_⟩
    rw [setF_some (shiftP_zero hp), setE_some (by omega) (by omega) (fitsAll_iff.2 fun v hv' => ?_), Int.toNat_natCast, eng_sgn, ← he]
    rw [Int.toNat_natCast]
    obtain ⟨x, _, rfl⟩ := List.mem_map.1 hv'
    exact sgn_fits _ _ h1

end Go.Proofs.Ytkmblobfamhoiaa
