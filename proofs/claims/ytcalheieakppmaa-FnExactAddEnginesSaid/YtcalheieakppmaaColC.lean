/- Plain mathematics of columns: widths, set-ups, capacities, sums with binomial coefficients. -/
import Derived.Test.YtcalheieakppmaaColB
namespace Go.Proofs.Ytcalheieakppmaa

theorem ten_mono {a b : Nat} (h : a ≤ b) : ten a ≤ ten b := by
  induction b with
  | zero => have : a = 0 := by omega
            subst this; exact Int.le_refl _
  | succ b ih =>
    by_cases hb : a = b + 1
    · subst hb; exact Int.le_refl _
    · have := ih (by omega)
      have := ten_pos b
      rw [ten_succ]; omega

theorem fits_mono {n : Int} {a b : Nat} (h : a ≤ b) (hf : fitsB n a = true) : fitsB n b = true := by
  rw [fitsB_iff] at hf ⊢
  have := ten_mono h
  omega

/-- The least width from k on, n of them tried, in which a number fits; 0 if there is none. -/
def wforN (v : Int) : Nat → Nat → Nat
  | 0, _ => 0
  | n + 1, k => if fitsB v k then k else wforN v n (k + 1)
def wfor (v : Int) : Nat := wforN v 12 1

theorem wforN_range (v : Int) : ∀ n k, wforN v n k = 0 ∨ (k ≤ wforN v n k ∧ wforN v n k < k + n)
  | 0, _ => .inl rfl
  | n + 1, k => by
    rw [wforN]
    split
    · right; omega
    · rcases wforN_range v n (k + 1) with h | h
      · exact .inl h
      · right; omega

theorem wforN_fits (v : Int) : ∀ n k, wforN v n k ≠ 0 → fitsB v (wforN v n k) = true
  | 0, _, h => absurd rfl h
  | n + 1, k, h => by
    rw [wforN] at h ⊢
    split
    · assumption
    · rename_i hc
      rw [if_neg hc] at h
      exact wforN_fits v n (k + 1) h

theorem wforN_le {v : Int} {W : Nat} (hf : fitsB v W = true) : ∀ n k, 0 < k → k ≤ W → W < k + n → wforN v n k ≠ 0 ∧ wforN v n k ≤ W
  | 0, k, _, h1, h2 => absurd h1 (by omega)
  | n + 1, k, h0, h1, h2 => by
    rw [wforN]
    split
    · omega
    · rename_i hc
      by_cases hk : k = W
      · subst hk; exact absurd hf hc
      · exact wforN_le hf n (k + 1) (by omega) (by omega) (by omega)

theorem wfor_le (v : Int) : wfor v ≤ 12 := by
  rcases wforN_range v 12 1 with h | h
  · unfold wfor; omega
  · unfold wfor; omega

theorem wfor_iff {v : Int} {W : Nat} (h1 : 1 ≤ W) (h2 : W ≤ 12) : (wfor v ≠ 0 ∧ wfor v ≤ W) ↔ fitsB v W = true := by
  constructor
  · rintro ⟨h3, h4⟩
    exact fits_mono h4 (wforN_fits v 12 1 h3)
  · intro hf
    exact wforN_le hf 12 1 (by omega) h1 (by omega)

/-- An engine shows a number exactly if it has a column of its width. -/
theorem sgn_eq_iff {W : Nat} {v : Int} (h1 : 1 ≤ W) : sgn W v = v ↔ fitsB v W = true := by
  constructor
  · intro h; rw [← h]; exact sgn_fits W v h1
  · exact sgn_of_fits h1

/-- All numbers of a list fit. -/
def fitsAll (vs : List Int) (W : Nat) : Bool := vs.all fun v => fitsB v W
theorem fitsAll_iff {vs : List Int} {W : Nat} : fitsAll vs W = true ↔ ∀ v ∈ vs, fitsB v W = true := by simp [fitsAll]

/-- The engine of a width that holds these numbers, if each has a column. -/
def setE (vs : List Int) (W : Int) : Option (List ByteArray) := if (decide (1 ≤ W) && decide (W ≤ 12)) && fitsAll vs W.toNat then some (eng W.toNat vs) else none

def capN (vs : List Int) (W : Nat) : Nat := (vs.takeWhile fun v => fitsB v W).length
theorem capN_le (vs : List Int) (W : Nat) : capN vs W ≤ vs.length := (List.takeWhile_sublist _).length_le

theorem capN_fits : ∀ (vs : List Int) (W i : Nat) (x : Int), i < capN vs W → vs[i]? = some x → fitsB x W = true
  | [], W, i, x, h, hx => by simp at hx
  | v :: r, W, i, x, h, hx => by
    unfold capN at h
    rw [List.takeWhile_cons] at h
    by_cases hf : fitsB v W = true
    · rw [if_pos hf] at h
      cases i with
      | zero => simp at hx; rw [← hx]; exact hf
      | succ i => exact capN_fits r W i x (by unfold capN; simpa using h) (by simpa using hx)
    · rw [if_neg hf] at h; simp at h

theorem capN_stop : ∀ (vs : List Int) (W : Nat) (x : Int), vs[capN vs W]? = some x → fitsB x W = false
  | [], W, x, hx => by simp [capN] at hx
  | v :: r, W, x, hx => by
    unfold capN at hx
    rw [List.takeWhile_cons] at hx
    by_cases hf : fitsB v W = true
    · rw [if_pos hf] at hx
      exact capN_stop r W x (by unfold capN; simpa using hx)
    · rw [if_neg hf] at hx
      simp at hx
      rw [← hx]; simpa using hf

/-- The first column that a scan comes to. -/
theorem capN_at {vs : List Int} {W k : Nat} (hk : ∀ i x, i < k → vs[i]? = some x → fitsB x W = true) (hx : (∃ x, vs[k]? = some x ∧ fitsB x W = false) ∨ k = vs.length) : capN vs W = k := by
  have hle := capN_le vs W
  rcases Nat.lt_trichotomy (capN vs W) k with h | h | h
  · exfalso
    have hlt : capN vs W < vs.length := by
      rcases hx with ⟨x, hx, _⟩ | hx
      · have := (List.getElem?_eq_some_iff.1 hx).1; omega
      · omega
    have h1 := hk _ _ h (List.getElem?_eq_getElem hlt)
    have h2 := capN_stop vs W _ (List.getElem?_eq_getElem hlt)
    rw [h1] at h2; cases h2
  · exact h
  · exfalso
    rcases hx with ⟨x, hx, hf⟩ | hx
    · have := capN_fits vs W k x h hx
      rw [hf] at this; cases this
    · omega

/-! The column after n turns as a sum: the loops of the law. -/

/-- The sum of the first m terms. -/
def tsum (vs : List Int) (n : Int) : Nat → Int
  | 0 => 0
  | k + 1 => tsum vs n k + vs.getD k 0 * chs n k
theorem tsum_val (vs : List Int) (n : Int) : ∀ m, m ≤ vs.length → tsum vs n m = val (vs.take m) n
  | 0, _ => by simp [tsum, val, valF]
  | m + 1, h => by
    have hx : vs[m]? = some (vs.getD m 0) := by rw [List.getD_eq_getElem?_getD, List.getElem?_eq_getElem (by omega)]; rfl
    rw [tsum, tsum_val vs n m (by omega), val_take vs m _ n hx]
theorem tsum_all (vs : List Int) (n : Int) : tsum vs n vs.length = val vs n := by rw [tsum_val vs n _ (Nat.le_refl _), List.take_length]

/-- Doubling: what the loop adds for a coefficient c > 0 that is the sum's rest. -/
theorem double_odd (s p c : Int) (h : c % 2 = 1) : s + p * c = (s + p) + (p + p) * (c / 2) := by
  have : c = 2 * (c / 2) + 1 := by omega
  have h2 : p * c = p * (2 * (c / 2) + 1) := by rw [← this]
  rw [h2]
  grind
theorem double_even (s p c : Int) (h : c % 2 = 0) : s + p * c = s + (p + p) * (c / 2) := by
  have : c = 2 * (c / 2) := by omega
  have h2 : p * c = p * (2 * (c / 2)) := by rw [← this]
  rw [h2]
  grind

end Go.Proofs.Ytcalheieakppmaa
