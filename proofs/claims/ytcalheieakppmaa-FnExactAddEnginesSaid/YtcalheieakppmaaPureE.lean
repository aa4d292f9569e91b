/- Plain mathematics: functions with vanishing differences; a polynomial is known by as many values as it has differences. -/
import Derived.Test.YtcalheieakppmaaPureD
namespace Go.Proofs.Ytcalheieakppmaa

/-- The difference of a function of the integers. -/
def dlt (f : Int → Int) : Int → Int := fun n => f (n + 1) - f n
def dlts : Nat → (Int → Int) → Int → Int
  | 0, f => f
  | k + 1, f => dlt (dlts k f)

theorem dlts_dlt (k : Nat) (f : Int → Int) : dlts k (dlt f) = dlts (k + 1) f := by
  induction k with
  | zero => rfl
  | succ k ih => rw [dlts, ih]; rfl

/-- All differences of order L vanish. -/
def Flat (L : Nat) (f : Int → Int) : Prop := ∀ n, dlts L f n = 0

theorem dlt_val (p : List Int) : dlt (val p) = val (p.drop 1) := by
  funext n; rw [dlt, val_step]; omega
theorem dlts_val : ∀ (k : Nat) (p : List Int), dlts k (val p) = val (p.drop k)
  | 0, p => by simp [dlts]
  | k + 1, p => by rw [dlts, dlts_val k p, dlt_val, List.drop_drop]
theorem val_nil (n : Int) : val [] n = 0 := rfl
theorem flat_val (p : List Int) : Flat p.length (val p) := fun n => by rw [dlts_val, List.drop_length]; rfl

theorem dlts_zero (k : Nat) : dlts k (fun _ => 0) = fun _ => 0 := by
  induction k with
  | zero => rfl
  | succ k ih => rw [dlts, ih]; funext n; simp [dlt]

theorem Flat.mono {L M : Nat} {f : Int → Int} (h : Flat L f) (hM : L ≤ M) : Flat M f := by
  obtain ⟨d, rfl⟩ : ∃ d, M = L + d := ⟨M - L, by omega⟩
  clear hM
  induction d with
  | zero => exact h
  | succ d ih =>
    intro n
    show dlt (dlts (L + d) f) n = 0
    rw [dlt, ih (n + 1), ih n]; rfl

theorem Flat.dlt {L : Nat} {f : Int → Int} (h : Flat (L + 1) f) : Flat L (dlt f) := fun n => by rw [dlts_dlt]; exact h n
theorem Flat.of_dlt {L : Nat} {f : Int → Int} (h : Flat L (Go.Proofs.Ytcalheieakppmaa.dlt f)) : Flat (L + 1) f := fun n => by rw [← dlts_dlt]; exact h n

theorem dlts_sub : ∀ (k : Nat) (f g : Int → Int), dlts k (fun n => f n - g n) = fun n => dlts k f n - dlts k g n
  | 0, f, g => rfl
  | k + 1, f, g => by rw [dlts, dlts_sub k f g]; funext n; simp only [dlts, dlt]; omega
theorem dlts_add : ∀ (k : Nat) (f g : Int → Int), dlts k (fun n => f n + g n) = fun n => dlts k f n + dlts k g n
  | 0, f, g => rfl
  | k + 1, f, g => by rw [dlts, dlts_add k f g]; funext n; simp only [dlts, dlt]; omega
theorem Flat.sub {L : Nat} {f g : Int → Int} (h : Flat L f) (k : Flat L g) : Flat L (fun n => f n - g n) := fun n => by rw [dlts_sub]; show dlts L f n - dlts L g n = 0; rw [h n, k n]; rfl
theorem Flat.add {L : Nat} {f g : Int → Int} (h : Flat L f) (k : Flat L g) : Flat L (fun n => f n + g n) := fun n => by rw [dlts_add]; show dlts L f n + dlts L g n = 0; rw [h n, k n]; rfl

theorem const_of_dlt {f : Int → Int} (h : ∀ n, dlt f n = 0) : ∀ n, f n = f 0 :=
  int_ind rfl (fun n hn => by have := h n; unfold dlt at this; omega) (fun n hn => by have := h n; unfold dlt at this; omega)

theorem Flat.zero : ∀ {L : Nat} {f : Int → Int}, Flat L f → (∀ i : Nat, i < L → f i = 0) → ∀ n, f n = 0
  | 0, f, h, _, n => h n
  | L + 1, f, h, h0, n => by
    have hd : ∀ n, Go.Proofs.Ytcalheieakppmaa.dlt f n = 0 := Flat.zero h.dlt fun i hi => by
      have h1 := h0 i (by omega)
      have h2 := h0 (i + 1) (by omega)
      unfold Go.Proofs.Ytcalheieakppmaa.dlt
      rw [show ((i : Int) + 1) = ((i + 1 : Nat) : Int) by omega, h1, h2]; rfl
    rw [const_of_dlt hd n]
    exact h0 0 (by omega)

/-- Two such functions that agree at L arguments agree everywhere. -/
theorem Flat.eq {L : Nat} {f g : Int → Int} (h : Flat L f) (k : Flat L g) (hv : ∀ i : Nat, i < L → f i = g i) (n : Int) : f n = g n := by
  have := Flat.zero (h.sub k) (fun i hi => by rw [hv i hi]; omega) n
  omega

theorem dlts_comp_shift (c : Int) : ∀ (k : Nat) (f : Int → Int), dlts k (fun n => f (n + c)) = fun n => dlts k f (n + c)
  | 0, f => rfl
  | k + 1, f => by
    rw [dlts, dlts_comp_shift c k f]; funext n
    simp only [dlts, dlt]
    rw [show n + 1 + c = n + c + 1 by omega]
theorem Flat.shift {L : Nat} {f : Int → Int} (h : Flat L f) (c : Int) : Flat L (fun n => f (n + c)) := fun n => by rw [dlts_comp_shift]; exact h _

/-- A jump of m lowers the order. -/
theorem Flat.jump {L : Nat} {f : Int → Int} (h : Flat (L + 1) f) (m : Int) : Flat L (fun n => f (n + m) - f n) := by
  have hn : ∀ k : Nat, Flat L (fun n => f (n + k) - f n) := by
    intro k
    induction k with
    | zero =>
      intro n
      have : (fun n => f (n + ((0 : Nat) : Int)) - f n) = fun _ => 0 := by funext n; simp
      rw [this, dlts_zero]
    | succ k ih =>
      have h1 := (h.dlt.shift (k : Int)).add ih
      have e : (fun n => Go.Proofs.Ytcalheieakppmaa.dlt f (n + (k : Int)) + (f (n + (k : Int)) - f n)) = fun n => f (n + ((k + 1 : Nat) : Int)) - f n := by
        funext n
        unfold Go.Proofs.Ytcalheieakppmaa.dlt
        rw [show n + (k : Int) + 1 = n + ((k + 1 : Nat) : Int) by omega]
        omega
      rw [e] at h1
      exact h1
  rcases Int.eq_nat_or_neg m with ⟨k, rfl | rfl⟩
  · exact hn k
  · have h1 := (hn k).shift (-(k : Int))
    intro n
    have h2 : (fun n => f (n + -(k : Int)) - f n) = fun n => 0 - (f (n + -(k : Int) + (k : Int)) - f (n + -(k : Int))) := by
      funext n
      rw [show n + -(k : Int) + (k : Int) = n by omega]
      omega
    rw [h2, dlts_sub, dlts_zero]
    show (0 : Int) - dlts L (fun n => f (n + -(k : Int) + (k : Int)) - f (n + -(k : Int))) n = 0
    rw [h1 n]; rfl

/-- Every m-th value. -/
theorem Flat.step : ∀ {L : Nat} {f : Int → Int}, Flat L f → ∀ m : Int, Flat L (fun n => f (m * n))
  | 0, f, h, m => fun n => h (m * n)
  | L + 1, f, h, m => by
    refine Flat.of_dlt ?_
    have h1 := Flat.step (h.jump m) m
    have e : Go.Proofs.Ytcalheieakppmaa.dlt (fun n => f (m * n)) = fun n => f (m * n + m) - f (m * n) := by
      funext n
      show f (m * (n + 1)) - f (m * n) = _
      rw [Int.mul_add, Int.mul_one]
    rw [e]; exact h1

/-- A list's first differences give its numbers back. -/
theorem fd_cons (a : Int) (r : List Int) : fd (a :: r) = a :: fd (nbr (a :: r)) := by
  unfold fd
  rw [List.length_cons, fdN, nbr_length]
  simp

theorem val_fd : ∀ (L : Nat) (zs : List Int), zs.length ≤ L → ∀ (i : Nat) (x : Int), zs[i]? = some x → val (fd zs) i = x
  | 0, zs, h, i, x, hx => by
    have : zs = [] := List.eq_nil_of_length_eq_zero (by omega)
    subst this; simp at hx
  | L + 1, [], _, i, x, hx => by simp at hx
  | L + 1, a :: r, h, i, x, hx => by
    induction i generalizing x with
    | zero =>
      rw [fd_cons]
      simp at hx
      subst hx
      exact val_zero _ _
    | succ i ih =>
      have hi : i < (a :: r).length := by have := (List.getElem?_eq_some_iff.1 hx).1; omega
      obtain ⟨y, hy⟩ : ∃ y, (a :: r)[i]? = some y := ⟨_, List.getElem?_eq_getElem hi⟩
      have h1 := ih y hy
      have h2 := val_fd L (nbr (a :: r)) (by rw [nbr_length]; simp at h ⊢; omega) i (x - y) (nbr_at _ i y x hy hx)
      rw [show ((i + 1 : Nat) : Int) = (i : Int) + 1 by omega, val_step, h1, fd_cons, List.drop_succ_cons, List.drop_zero, h2]
      omega

/-- The first differences of the values of such a function are a polynomial with just its values. -/
theorem val_fd_tab {L : Nat} {f : Int → Int} (h : Flat L f) (n : Int) : val (fd (tab L fun i => f i)) n = f n := by
  refine Flat.eq (L := L) ?_ h (fun i hi => ?_) n
  · have := flat_val (fd (tab L fun i => f i))
    rwa [fd_length, tab_length] at this
  · exact val_fd L _ (by rw [tab_length]; exact Nat.le_refl _) i _ (tab_at _ hi)

/-- Polynomials of one length with the same values are the same. -/
theorem val_inj : ∀ (L : Nat) (p q : List Int), p.length = L → q.length = L → (∀ n, val p n = val q n) → p = q
  | 0, p, q, hp, hq, _ => by rw [List.eq_nil_of_length_eq_zero hp, List.eq_nil_of_length_eq_zero hq]
  | L + 1, [], q, hp, _, _ => by simp at hp
  | L + 1, p, [], _, hq, _ => by simp at hq
  | L + 1, a :: p, b :: q, hp, hq, h => by
    have h0 := h 0
    rw [val_zero, val_zero] at h0
    have hr := val_inj L p q (by simpa using hp) (by simpa using hq) fun n => by
      have h1 := val_step (a :: p) n
      have h2 := val_step (b :: q) n
      rw [h n, h (n + 1)] at h1
      simp only [List.drop_succ_cons, List.drop_zero] at h1 h2
      omega
    rw [h0, hr]

theorem fd_unique {L : Nat} {p : List Int} {f : Int → Int} (hp : p.length = L) (h : ∀ n, f n = val p n) : fd (tab L fun i => f i) = p := by
  have hf : Flat L f := by
    have := flat_val p
    rw [hp] at this
    rwa [show f = val p from funext h]
  exact val_inj L _ _ (by rw [fd_length, tab_length]) hp fun n => by rw [val_fd_tab hf, h]

end Go.Proofs.Ytcalheieakppmaa
