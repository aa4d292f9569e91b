/- Plain mathematics: coefficients of powers. -/
import Derived.Test.YthoodhdcmckkpaaPureL
namespace Go.Proofs.Ythoodhdcmckkpaa

/-- The value at n of the polynomial with these coefficients of powers. -/
def pw : List Int → Int → Int
  | [], _ => 0
  | a :: r, n => pw r n * n + a

/-- The coefficients times the argument minus k, the carry b before the first. -/
def tmsG (k : Int) : Int → List Int → List Int
  | b, [] => [b]
  | b, a :: r => (b - k * a) :: tmsG k a r
def tms (c : List Int) (k : Int) : List Int := tmsG k 0 c

theorem tmsG_length (k : Int) : ∀ (c : List Int) (b : Int), (tmsG k b c).length = c.length + 1
  | [], _ => rfl
  | a :: r, b => by simp [tmsG, tmsG_length k r a]
theorem tms_length (c : List Int) (k : Int) : (tms c k).length = c.length + 1 := tmsG_length k c 0

theorem pw_tmsG (k n : Int) : ∀ (c : List Int) (b : Int), pw (tmsG k b c) n = b + pw c n * (n - k)
  | [], b => by simp [tmsG, pw]
  | a :: r, b => by
    have ih := pw_tmsG k n r a
    simp only [tmsG, pw, ih]
    grind
theorem pw_tms (c : List Int) (k n : Int) : pw (tms c k) n = pw c n * (n - k) := by rw [tms, pw_tmsG]; omega

theorem tmsG_at (k : Int) : ∀ (c : List Int) (b : Int) (j : Nat), j ≤ c.length → (tmsG k b c)[j]? = some ((if j = 0 then b else c.getD (j - 1) 0) - k * c.getD j 0)
  | [], b, j, h => by
    have : j = 0 := by simp at h; exact h
    subst this; simp [tmsG]
  | a :: r, b, 0, _ => by simp [tmsG]
  | a :: r, b, j + 1, h => by
    have ih := tmsG_at k r a j (by simpa using h)
    simp only [tmsG, List.getElem?_cons_succ, ih]
    cases j with
    | zero => simp
    | succ j => simp
theorem tms_at (c : List Int) (k : Int) {j : Nat} (h : j ≤ c.length) : (tms c k)[j]? = some ((if j = 0 then 0 else c.getD (j - 1) 0) - k * c.getD j 0) := tmsG_at k c 0 j h

/-- The coefficients of n (n - 1) .. (n - k + 1). -/
def ffl : Nat → List Int
  | 0 => [1]
  | k + 1 => tms (ffl k) k
theorem ffl_length : ∀ k, (ffl k).length = k + 1
  | 0 => rfl
  | k + 1 => by rw [ffl, tms_length, ffl_length k]
theorem pw_ffl (n : Int) : ∀ k, pw (ffl k) n = ffn n k
  | 0 => by simp [ffl, pw, ffn]
  | k + 1 => by rw [ffl, pw_tms, pw_ffl n k, ffn]

/-- The same, times 720, over the factorial, as the reference reckons them. -/
def scf : Nat → List Int
  | 0 => [720]
  | k + 1 => (tms (scf k) k).map fun x => x.tdiv (k + 1)
theorem scf_length : ∀ k, (scf k).length = k + 1
  | 0 => rfl
  | k + 1 => by rw [scf, List.length_map, tms_length, scf_length k]

def qk (k : Nat) : Int := (720 : Int) / fct k

theorem scf_ffl (k : Nat) (h : k ≤ 6) : scf k = (ffl k).map fun x => qk k * x := by
  match k, h with
  | 0, _ | 1, _ | 2, _ | 3, _ | 4, _ | 5, _ | 6, _ => decide
  | k + 7, h => omega
theorem scf_bd (k : Nat) (h : k ≤ 7) : ∀ x ∈ scf k, -1000000 ≤ x ∧ x ≤ 1000000 := by
  match k, h with
  | 0, _ | 1, _ | 2, _ | 3, _ | 4, _ | 5, _ | 6, _ | 7, _ => decide
  | k + 8, h => omega
theorem ffl_bd (k : Nat) (h : k ≤ 7) : ∀ x ∈ ffl k, -1000000 ≤ x ∧ x ≤ 1000000 := by
  match k, h with
  | 0, _ | 1, _ | 2, _ | 3, _ | 4, _ | 5, _ | 6, _ | 7, _ => decide
  | k + 8, h => omega
theorem qk_bd (k : Nat) (h : k ≤ 6) : 0 ≤ qk k ∧ qk k ≤ 720 ∧ qk k * fct k = 720 := by
  match k, h with
  | 0, _ | 1, _ | 2, _ | 3, _ | 4, _ | 5, _ | 6, _ => decide
  | k + 7, h => omega
theorem fct_bd (k : Nat) (h : k ≤ 7) : 1 ≤ fct k ∧ fct k ≤ 5040 := by
  match k, h with
  | 0, _ | 1, _ | 2, _ | 3, _ | 4, _ | 5, _ | 6, _ | 7, _ => decide
  | k + 8, h => omega

theorem pw_map (q n : Int) : ∀ c : List Int, pw (c.map fun x => q * x) n = q * pw c n
  | [] => by simp [pw]
  | a :: r => by
    simp only [List.map_cons, pw, pw_map q n r]
    grind

theorem pw_scf (n : Int) {k : Nat} (h : k ≤ 6) : pw (scf k) n = 720 * chs n k := by
  rw [scf_ffl k h, pw_map, pw_ffl, ← chs_fct, ← (qk_bd k h).2.2]
  grind

/-- The sum of the first m differences of p, each times its coefficient of the power i. -/
def rsum (p : List Int) (i : Nat) : Nat → Int
  | 0 => 0
  | k + 1 => rsum p i k + p.getD k 0 * (scf k).getD i 0

def powP (p : List Int) : List Int := if validP p then tab p.length fun i => rsum p i p.length else []

theorem pw_tab_add (f g : Nat → Int) (n : Int) : ∀ L, pw (tab L fun i => f i + g i) n = pw (tab L f) n + pw (tab L g) n := by
  intro L
  induction L generalizing f g with
  | zero => rfl
  | succ L ih =>
    rw [tab_succ, tab_succ, tab_succ]
    simp only [pw, ih]
    grind
theorem pw_tab_mul (f : Nat → Int) (q n : Int) : ∀ L, pw (tab L fun i => q * f i) n = q * pw (tab L f) n := by
  intro L
  induction L generalizing f with
  | zero => simp [tab, pw]
  | succ L ih =>
    rw [tab_succ, tab_succ]
    simp only [pw, ih]
    grind
theorem pw_tab_zero (n : Int) : ∀ L, pw (tab L fun _ => 0) n = 0 := by
  intro L
  induction L with
  | zero => rfl
  | succ L ih => rw [tab_succ]; simp only [pw, ih]; simp
theorem pw_pad (n : Int) : ∀ (c : List Int) (L : Nat), c.length ≤ L → pw (tab L fun i => c.getD i 0) n = pw c n
  | [], L, _ => by
    have : (tab L fun i => ([] : List Int).getD i 0) = tab L fun _ => 0 := tab_congr fun i _ => by simp
    rw [this, pw_tab_zero]; rfl
  | a :: r, 0, h => by simp at h
  | a :: r, L + 1, h => by
    rw [tab_succ]
    have : (tab L fun i => (a :: r).getD (i + 1) 0) = tab L fun i => r.getD i 0 := tab_congr fun i _ => by simp
    rw [this]
    simp only [pw, pw_pad n r L (by simpa using h)]
    simp

theorem pw_rsum (p : List Int) (n : Int) (L : Nat) : ∀ m, m ≤ L → L ≤ 7 → m ≤ p.length → pw (tab L fun i => rsum p i m) n = 720 * val (p.take m) n
  | 0, _, _, _ => by
    rw [show (tab L fun i => rsum p i 0) = tab L fun _ => 0 from rfl, pw_tab_zero]
    simp [val, valF]
  | m + 1, h, h7, hp => by
    have ih := pw_rsum p n L m (by omega) h7 (by omega)
    have hx : p[m]? = some (p.getD m 0) := by rw [List.getD_eq_getElem?_getD, List.getElem?_eq_getElem (by omega)]; rfl
    have e : (tab L fun i => rsum p i (m + 1)) = tab L fun i => rsum p i m + p.getD m 0 * (scf m).getD i 0 := rfl
    rw [e, pw_tab_add (fun i => rsum p i m) (fun i => p.getD m 0 * (scf m).getD i 0), pw_tab_mul (fun i => (scf m).getD i 0), pw_pad n (scf m) L (by rw [scf_length]; omega), ih, pw_scf n (by omega), val_take p m _ n hx]
    grind

theorem pw_powP {p : List Int} (hv : validP p = true) (n : Int) : pw (powP p) n = 720 * val p n := by
  have h7 := (validP_iff.1 hv).2.1
  rw [powP, if_pos hv, pw_rsum p n p.length p.length (Nat.le_refl _) h7 (Nat.le_refl _), List.take_length]

theorem rsum_bd {p : List Int} (hx : ∀ x ∈ p, -100000 ≤ x ∧ x ≤ 100000) (i : Nat) : ∀ m, m ≤ 7 → m ≤ p.length → -(100000000000 * (m : Int)) ≤ rsum p i m ∧ rsum p i m ≤ 100000000000 * (m : Int)
  | 0, _, _ => by simp [rsum]
  | m + 1, h, hp => by
    have ih := rsum_bd hx i m (by omega) (by omega)
    have h1 := hx (p.getD m 0) (by rw [List.getD_eq_getElem?_getD, List.getElem?_eq_getElem (by omega)]; exact List.getElem_mem _)
    have h2 : -1000000 ≤ (scf m).getD i 0 ∧ (scf m).getD i 0 ≤ 1000000 := by
      rw [List.getD_eq_getElem?_getD]
      cases hc : (scf m)[i]? with
      | none => simp
      | some y => exact scf_bd m (by omega) y (List.mem_of_getElem? hc)
    have h3 := mul_bd _ _ 100000 1000000 (by decide) h1.1 h1.2 h2.1 h2.2
    simp only [rsum]
    push_cast
    omega

theorem powP_bd {p : List Int} (hv : validP p = true) : ∀ x ∈ powP p, -700000000000 ≤ x ∧ x ≤ 700000000000 := by
  obtain ⟨h1, h7, hx⟩ := validP_iff.1 hv
  intro x hm
  rw [powP, if_pos hv] at hm
  obtain ⟨i, _, rfl⟩ := tab_mem hm
  have := rsum_bd hx i p.length h7 (Nat.le_refl _)
  omega

def gN : Nat → Int
  | 0 => 0
  | k + 1 => 7 * gN k + 1
theorem gN_pos : ∀ k, 0 ≤ gN k
  | 0 => Int.le_refl _
  | k + 1 => by have := gN_pos k; simp only [gN]; omega
theorem gN_bd (k : Nat) (h : k ≤ 7) : gN k ≤ 137257 := by
  match k, h with
  | 0, _ | 1, _ | 2, _ | 3, _ | 4, _ | 5, _ | 6, _ | 7, _ => decide
  | k + 8, h => omega

theorem pw_bd (C : Int) (hC : 0 ≤ C) (n : Int) (h1 : -7 ≤ n) (h2 : n ≤ 7) : ∀ c : List Int, (∀ x ∈ c, -C ≤ x ∧ x ≤ C) → -(C * gN c.length) ≤ pw c n ∧ pw c n ≤ C * gN c.length
  | [], _ => by simp [pw, gN]
  | a :: r, h => by
    have ih := pw_bd C hC n h1 h2 r fun x hx => h x (List.mem_cons_of_mem _ hx)
    have ha := h a List.mem_cons_self
    have hg := Int.mul_nonneg hC (gN_pos r.length)
    have hm := mul_bd (pw r n) n (C * gN r.length) 7 hg ih.1 ih.2 h1 h2
    have e : C * gN (r.length + 1) = C * gN r.length * 7 + C := by simp only [gN]; grind
    simp only [pw, List.length_cons, e]
    omega

/-- A bound that serves for up to seven coefficients. -/
theorem pw_bd7 (C : Int) (hC : 0 ≤ C) (n : Int) (h1 : -7 ≤ n) (h2 : n ≤ 7) (c : List Int) (h7 : c.length ≤ 7) (h : ∀ x ∈ c, -C ≤ x ∧ x ≤ C) : -(C * 137257) ≤ pw c n ∧ pw c n ≤ C * 137257 := by
  have h3 := pw_bd C hC n h1 h2 c h
  have h4 := Int.mul_le_mul_of_nonneg_left (gN_bd c.length h7) hC
  omega

theorem pw_drop {c : List Int} {i : Nat} {x : Int} (h : c[i]? = some x) (n : Int) : pw (c.drop i) n = pw (c.drop (i + 1)) n * n + x := by
  obtain ⟨hi, rfl⟩ := List.getElem?_eq_some_iff.1 h
  rw [List.drop_eq_getElem_cons hi]; rfl

/-! What FromPowers reckons. -/

def fromP (c : List Int) : Option (List Int) := if validP c then chk (fd (tab c.length fun n => pw c n)) else none

theorem flat_id : Flat 2 (fun n => n) := by
  intro n
  show (n + 1 + 1) - (n + 1) - ((n + 1) - n) = 0
  omega
theorem flat_const (a : Int) : Flat 1 (fun _ => a) := fun n => by
  show a - a = 0
  omega

theorem flat_pw : ∀ c : List Int, Flat c.length (pw c)
  | [] => fun n => rfl
  | a :: r => by
    have h1 := Flat.mul (r.length + 1) r.length 2 (pw r) (fun n => n) (flat_pw r) flat_id (by omega)
    have h2 := h1.add ((flat_const a).mono (M := r.length + 1) (by omega))
    exact h2

theorem fromP_some {c p : List Int} (h : fromP c = some p) : validP c = true ∧ validP p = true ∧ p.length = c.length ∧ ∀ n, val p n = pw c n := by
  rw [fromP] at h
  split at h
  · rename_i hc
    obtain ⟨e, hv⟩ := chk_some h
    refine ⟨hc, hv, by rw [e, fd_length, tab_length], fun n => ?_⟩
    rw [e]
    exact val_fd_tab (flat_pw c) n
  · cases h

/-- The coefficients of powers are known by the values. -/
theorem pw_inj : ∀ (L : Nat) (a b : List Int), a.length = L → b.length = L → (∀ n, pw a n = pw b n) → a = b
  | 0, a, b, ha, hb, _ => by rw [List.eq_nil_of_length_eq_zero ha, List.eq_nil_of_length_eq_zero hb]
  | L + 1, [], b, ha, _, _ => by simp at ha
  | L + 1, a, [], _, hb, _ => by simp at hb
  | L + 1, x :: a, y :: b, ha, hb, h => by
    have h0 := h 0
    simp only [pw, Int.mul_zero] at h0
    have hxy : x = y := by omega
    subst hxy
    have hne : ∀ n : Int, n ≠ 0 → pw a n = pw b n := fun n hn => by
      have := h n
      simp only [pw] at this
      exact Int.eq_of_mul_eq_mul_right hn (by omega)
    simp only [List.length_cons, Nat.add_right_cancel_iff] at ha hb
    have hF : ∀ n, pw a n = pw b n := by
      have fa := flat_pw a
      have fb := flat_pw b
      rw [ha] at fa
      rw [hb] at fb
      intro n
      have := Flat.eq (fa.shift 1) (fb.shift 1) (fun i _ => hne _ (by omega)) (n - 1)
      simpa using this
    rw [pw_inj L a b ha hb hF]

theorem powers_back {c p : List Int} (h : fromP c = some p) : powP p = c.map fun x => 720 * x := by
  obtain ⟨hc, hp, hl, hv⟩ := fromP_some h
  refine pw_inj p.length _ _ ?_ ?_ fun n => ?_
  · rw [powP, if_pos hp, tab_length]
  · rw [List.length_map, hl]
  · rw [pw_powP hp, hv, pw_map]

end Go.Proofs.Ythoodhdcmckkpaa
