/- Plain mathematics: the loops over coefficients of powers. -/
import Derived.Test.YthoodhdcmckkpaaPureM
namespace Go.Proofs.Ythoodhdcmckkpaa

theorem getD_big {p : List Int} {k : Nat} (h : p.length ≤ k) : p.getD k 0 = 0 := by rw [List.getD_eq_getElem?_getD, List.getElem?_eq_none h]; rfl

theorem rsum_high (p : List Int) {i k : Nat} (h : k + 1 ≤ i) : rsum p i (k + 1) = rsum p i k := by
  rw [rsum, getD_big (p := scf k) (by rw [scf_length]; exact h)]; omega

theorem rsum_step {p : List Int} {j k : Nat} {d c : Int} (hk : k ≤ 6) (hd' : p[k]? = some d) (hc : (ffl k)[j]? = some c) : rsum p j k + d * qk k * c = rsum p j (k + 1) := by
  rw [rsum, getD_of hd', scf_ffl k hk]
  have : ((ffl k).map fun x => qk k * x).getD j 0 = qk k * c := getD_of (by rw [List.getElem?_map, hc]; rfl)
  rw [this, Int.mul_assoc]

theorem acc_step {m j : Nat} (f g : Nat → Int) (v : Int) (hv : v = g j) (_hj : j < m) : ((tab m fun i => if i < j then g i else f i).set j v) = tab m fun i => if i < j + 1 then g i else f i := by
  rw [tab_set]
  refine tab_ext fun i _ => ?_
  by_cases hi : i = j
  · subst hi; rw [if_pos rfl, if_pos (by omega), hv]
  · rw [if_neg hi]
    by_cases h2 : i < j
    · rw [if_pos h2, if_pos (by omega)]
    · rw [if_neg h2, if_neg (by omega)]

/-- The row of a product with the argument minus k, when j coefficients have been done. -/
def nxt (c : List Int) (k : Int) (j i : Nat) : Int :=
  if i < j then (if i = 0 then 0 else c.getD (i - 1) 0) - k * c.getD i 0 else if i = j then (if i = 0 then 0 else c.getD (i - 1) 0) else 0

theorem nxt_zero (c : List Int) (k : Int) (m : Nat) : (tab m fun i => nxt c k 0 i) = List.replicate m 0 := by
  refine List.ext_getElem? fun i => ?_
  by_cases hi : i < m
  · rw [tab_at _ hi, List.getElem?_replicate, if_pos hi, nxt, if_neg (by omega)]
    by_cases h0 : i = 0
    · rw [if_pos h0, if_pos h0]
    · rw [if_neg h0]
  · rw [List.getElem?_eq_none (by rw [tab_length]; omega), List.getElem?_eq_none (by simp; omega)]

theorem nxt_end (c : List Int) (k : Int) : (tab (c.length + 1) fun i => nxt c k c.length i) = tms c k := by
  refine List.ext_getElem? fun i => ?_
  by_cases hi : i < c.length + 1
  · rw [tab_at _ hi, tms_at c k (by omega), nxt]
    by_cases h1 : i < c.length
    · rw [if_pos h1]
    · have : i = c.length := by omega
      rw [if_neg h1, if_pos this, getD_big (p := c) (k := i) (by omega)]
      simp
  · rw [List.getElem?_eq_none (by rw [tab_length]; omega), List.getElem?_eq_none (by rw [tms_length]; omega)]

theorem nxt_step (c : List Int) (k : Int) (m j : Nat) (x : Int) (hx : c[j]? = some x) (hj : j + 1 < m) :
    (((tab m fun i => nxt c k j i).set (j + 1) x).set j (nxt c k j j - k * x)) = tab m fun i => nxt c k (j + 1) i := by
  rw [tab_set, tab_set]
  refine tab_ext fun i _ => ?_
  have hg := getD_of hx
  by_cases h1 : i = j
  · subst h1
    simp [nxt, hx]
  · rw [if_neg h1]
    by_cases h2 : i = j + 1
    · subst h2
      rw [if_pos rfl, nxt, if_neg (by omega), if_pos rfl, if_neg (by omega), Nat.add_sub_cancel, hg]
    · rw [if_neg h2, nxt, nxt]
      by_cases h3 : i < j
      · have h4 : i < j + 1 := by omega
        simp [h3, h4]
      · rw [if_neg h3, if_neg h1, if_neg (by omega), if_neg h2]

theorem nxt_next (c : List Int) (k : Int) (j : Nat) : nxt c k j (j + 1) = 0 := by rw [nxt, if_neg (by omega), if_neg (by omega)]

end Go.Proofs.Ythoodhdcmckkpaa
