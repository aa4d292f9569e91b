/- Plain mathematics: polynomials without the zeros at their end; sums and multiples. -/
import Derived.Test.YtkmblobfamhoiaaGrA
namespace Go.Proofs.Ytkmblobfamhoiaa

def trimN (p : List Int) : Nat → Nat
  | 0 => 0
  | m + 1 => if m = 0 ∨ p[m]? ≠ some 0 then m + 1 else trimN p m
def trimP (p : List Int) : List Int := if validP p then p.take (trimN p p.length) else []
def degP (p : List Int) : Int := if validP p then (if allB p 0 then -1 else (trimN p p.length : Int) - 1) else -2

theorem trimN_stop {p : List Int} {m : Nat} (h : m = 0 ∨ p[m]? ≠ some 0) : trimN p (m + 1) = m + 1 := by rw [trimN, if_pos h]
theorem trimN_go {p : List Int} {m : Nat} (h0 : 0 < m) (h : p[m]? = some 0) : trimN p (m + 1) = trimN p m := by
  rw [trimN, if_neg]
  rintro (h1 | h1)
  · omega
  · exact h1 h

theorem trimN_le (p : List Int) : ∀ n, trimN p n ≤ n
  | 0 => Nat.le_refl _
  | m + 1 => by
    rw [trimN]
    split
    · exact Nat.le_refl _
    · exact Nat.le_succ_of_le (trimN_le p m)

theorem trimN_pos (p : List Int) : ∀ n, 0 < n → 0 < trimN p n
  | 0, h => absurd h (by omega)
  | m + 1, _ => by
    rw [trimN]
    split
    · omega
    · rename_i h
      exact trimN_pos p m (by omega)

theorem trimN_last (p : List Int) : ∀ n, 2 ≤ trimN p n → p[trimN p n - 1]? ≠ some 0
  | 0, h => by simp [trimN] at h
  | m + 1, h => by
    by_cases hc : m = 0 ∨ p[m]? ≠ some 0
    · rw [trimN_stop hc] at h ⊢
      rcases hc with h1 | h1
      · omega
      · simpa using h1
    · have hm : 0 < m := by omega
      have h0 : p[m]? = some 0 := by
        rcases Decidable.em (p[m]? = some 0) with h1 | h1
        · exact h1
        · exact absurd (.inr h1) hc
      rw [trimN_go hm h0] at h ⊢
      exact trimN_last p m h

theorem trimN_take (p : List Int) (t : Nat) : ∀ n, n ≤ t → trimN (p.take t) n = trimN p n
  | 0, _ => rfl
  | m + 1, h => by
    rw [trimN, trimN, List.getElem?_take_of_lt (by omega), trimN_take p t m (by omega)]

theorem trimN_fix (p : List Int) : ∀ n, trimN p (trimN p n) = trimN p n
  | 0 => rfl
  | m + 1 => by
    by_cases hc : m = 0 ∨ p[m]? ≠ some 0
    · rw [trimN_stop hc, trimN_stop hc]
    · have h0 : p[m]? = some 0 := by
        rcases Decidable.em (p[m]? = some 0) with h1 | h1
        · exact h1
        · exact absurd (.inr h1) hc
      rw [trimN_go (by omega) h0]
      exact trimN_fix p m

theorem val_trim (p : List Int) (x : Int) : ∀ n, n ≤ p.length → val (p.take (trimN p n)) x = val (p.take n) x
  | 0, _ => rfl
  | m + 1, h => by
    by_cases hc : m = 0 ∨ p[m]? ≠ some 0
    · rw [trimN_stop hc]
    · have h0 : p[m]? = some 0 := by
        rcases Decidable.em (p[m]? = some 0) with h1 | h1
        · exact h1
        · exact absurd (.inr h1) hc
      rw [trimN_go (by omega) h0, val_trim p x m (by omega), val_take p m 0 x h0]
      omega

theorem trimP_len {p : List Int} (hv : validP p = true) : (trimP p).length = trimN p p.length := by
  rw [trimP, if_pos hv, List.length_take]
  have := trimN_le p p.length
  omega

theorem trimP_valid {p : List Int} (hv : validP p = true) : validP (trimP p) = true := by
  obtain ⟨h1, h7, hx⟩ := validP_iff.1 hv
  refine validP_iff.2 ⟨?_, ?_, ?_⟩
  · rw [trimP_len hv]; exact trimN_pos p _ h1
  · rw [trimP_len hv]; have := trimN_le p p.length; omega
  · intro x hm
    rw [trimP, if_pos hv] at hm
    exact hx x (List.mem_of_mem_take hm)

theorem trimP_val {p : List Int} (hv : validP p = true) (n : Int) : val (trimP p) n = val p n := by
  rw [trimP, if_pos hv, val_trim p n p.length (Nat.le_refl _), List.take_length]

theorem trimP_evl {p : List Int} (hv : validP p = true) (n : Int) : evl (trimP p) n = evl p n := by
  rw [evl, evl, trimP_valid hv, hv, trimP_val hv]

theorem trimP_idem {p : List Int} (hv : validP p = true) : trimP (trimP p) = trimP p := by
  have hl := trimP_len hv
  rw [trimP, if_pos (trimP_valid hv), hl]
  rw [trimP, if_pos hv]
  rw [trimN_take p _ _ (Nat.le_refl _), trimN_fix, List.take_take, Nat.min_self]

theorem allB_zero (p : List Int) (h1 : 0 < p.length) : allB p 0 = true ↔ trimN p p.length = 1 ∧ p[0]? = some 0 := by
  rw [allB_iff]
  constructor
  · intro h
    have hz : ∀ k, k < p.length → p[k]? = some 0 := fun k hk => by
      have := h p[k] (List.getElem_mem hk)
      rw [List.getElem?_eq_getElem hk]
      congr 1
      omega
    refine ⟨?_, hz 0 h1⟩
    have : ¬ 2 ≤ trimN p p.length := fun h2 => trimN_last p _ h2 (hz _ (by have := trimN_le p p.length; omega))
    have := trimN_pos p p.length h1
    omega
  · rintro ⟨h2, h0⟩ x hx
    obtain ⟨k, hk, rfl⟩ := List.getElem_of_mem hx
    have hz : ∀ n, n ≤ p.length → trimN p n = 1 → ∀ j, 0 < j → j < n → p[j]? = some 0 := by
      intro n
      induction n with
      | zero => intro _ _ j _ hj; omega
      | succ m ih =>
        intro hn ht j hj0 hj
        by_cases hc : m = 0 ∨ p[m]? ≠ some 0
        · rw [trimN_stop hc] at ht
          omega
        · have h3 : p[m]? = some 0 := by
            rcases Decidable.em (p[m]? = some 0) with h1 | h1
            · exact h1
            · exact absurd (.inr h1) hc
          by_cases hjm : j = m
          · rw [hjm]; exact h3
          · rw [trimN_go (by omega) h3] at ht
            exact ih (by omega) ht j hj0 (by omega)
    have : p[k]? = some 0 := by
      by_cases hk0 : k = 0
      · rw [hk0]; exact h0
      · exact hz p.length (Nat.le_refl _) h2 k (by omega) hk
    rw [List.getElem?_eq_getElem hk] at this
    injection this with this
    omega

/-- The end of a trimmed polynomial, by its degree. -/
theorem degP_zero {p : List Int} (hv : validP p = true) (h : allB p 0 = true) : degP p = -1 ∧ (trimP p).length = 1 := by
  rw [degP, if_pos hv, if_pos h, trimP_len hv]
  exact ⟨rfl, ((allB_zero p (validP_iff.1 hv).1).1 h).1⟩

theorem degP_some {p : List Int} (hv : validP p = true) (h : allB p 0 = false) :
    ∃ (k : Nat) (x : Int), degP p = (k : Int) ∧ (trimP p).length = k + 1 ∧ k < p.length ∧ (trimP p)[k]? = some x ∧ (x != 0) = true := by
  have h1 := (validP_iff.1 hv).1
  have hp := trimN_pos p p.length h1
  have hle := trimN_le p p.length
  refine ⟨trimN p p.length - 1, (trimP p)[trimN p p.length - 1]'(by rw [trimP_len hv]; omega), ?_, by rw [trimP_len hv]; omega, by omega, List.getElem?_eq_getElem _, ?_⟩
  · rw [degP, if_pos hv, if_neg (by rw [h]; simp)]; omega
  · have hx : (trimP p)[trimN p p.length - 1]'(by rw [trimP_len hv]; omega) = p[trimN p p.length - 1] := by
      simp only [trimP, if_pos hv, List.getElem_take]
    rw [hx, bne_iff_ne]
    intro h0
    have h0' : p[trimN p p.length - 1]? = some 0 := by rw [List.getElem?_eq_getElem (by omega), h0]
    by_cases h2 : 2 ≤ trimN p p.length
    · exact trimN_last p _ h2 h0'
    · have ht : trimN p p.length = 1 := by omega
      rw [ht] at h0'
      have := (allB_zero p h1).2 ⟨ht, h0'⟩
      rw [h] at this
      cases this

end Go.Proofs.Ytkmblobfamhoiaa
