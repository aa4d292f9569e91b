/- Merged out of the texts PureA PureB PureC PureD PureE PureF PureG ColA ColB ColC. -/

/- Plain mathematics of binomial coefficients, values of polynomials and differences. No program in sight. -/
namespace Go.Proofs.Ytinhcdppdnmlgaa

/-- The loop of a binomial coefficient, as the program reckons it. -/
def chs (n : Int) : Nat → Int
  | 0 => 1
  | k + 1 => (chs n k * (n - k)).tdiv (k + 1)

def ffn (n : Int) : Nat → Int
  | 0 => 1
  | k + 1 => ffn n k * (n - k)

def fct : Nat → Int
  | 0 => 1
  | k + 1 => (k + 1) * fct k

theorem fct_pos : ∀ k, 0 < fct k
  | 0 => by decide
  | k + 1 => Int.mul_pos (by omega) (fct_pos k)

theorem ffn_succ (n : Int) : ∀ k, ffn (n + 1) (k + 1) = (n + 1) * ffn n k
  | 0 => by simp [ffn]
  | k + 1 => by
    have ih := ffn_succ n k
    rw [ffn, ih, ffn, Int.mul_assoc]
    congr 2
    push_cast; omega

theorem ffn_step (n : Int) (k : Nat) : ffn (n + 1) (k + 1) = ffn n (k + 1) + ffn n k * (k + 1) := by
  rw [ffn_succ, ffn, Int.mul_comm (n + 1), ← Int.mul_add]
  congr 1
  omega

theorem int_ind {P : Int → Prop} (h0 : P 0) (hs : ∀ n, P n → P (n + 1)) (hp : ∀ n, P (n + 1) → P n) : ∀ n, P n := by
  have hnat : ∀ k : Nat, P (k : Int) ∧ P (-(k : Int)) := by
    intro k
    induction k with
    | zero => exact ⟨h0, h0⟩
    | succ k ih =>
      refine ⟨by have := hs _ ih.1; simpa using this, hp _ ?_⟩
      have e : -((k + 1 : Nat) : Int) + 1 = -(k : Int) := by omega
      rw [e]; exact ih.2
  intro n
  rcases Int.eq_nat_or_neg n with ⟨k, rfl | rfl⟩
  · exact (hnat k).1
  · exact (hnat k).2

theorem ffn_zero_succ (k : Nat) : ffn 0 (k + 1) = 0 := by
  induction k with
  | zero => simp [ffn]
  | succ k ih => rw [ffn, ih, Int.zero_mul]

theorem fct_dvd : ∀ (k : Nat) (n : Int), fct k ∣ ffn n k
  | 0, _ => Int.one_dvd _
  | k + 1, n => by
    have hd : ∀ n : Int, fct (k + 1) ∣ ffn n k * (k + 1) := fun n => by
      obtain ⟨q, hq⟩ := fct_dvd k n
      refine ⟨q, ?_⟩
      rw [hq, fct, Int.mul_comm (fct k * q), Int.mul_assoc]
    refine int_ind (P := fun n => fct (k + 1) ∣ ffn n (k + 1)) ?_ ?_ ?_ n
    · rw [ffn_zero_succ]; exact Int.dvd_zero _
    · intro n hn
      rw [ffn_step]
      exact Int.dvd_add hn (hd n)
    · intro n hn
      rw [ffn_step] at hn
      exact (Int.dvd_add_left (hd n)).1 hn

theorem chs_fct : ∀ (k : Nat) (n : Int), chs n k * fct k = ffn n k
  | 0, n => by simp [chs, fct, ffn]
  | k + 1, n => by
    have ih := chs_fct k n
    obtain ⟨q, hq⟩ := fct_dvd (k + 1) n
    have hp := fct_pos k
    have e : chs n k * (n - k) = (k + 1) * q := by
      have h1 : fct k * (chs n k * (n - k)) = fct k * ((k + 1) * q) := by
        rw [← Int.mul_assoc, Int.mul_comm (fct k), ih, show ffn n k * (n - k) = ffn n (k + 1) from rfl, hq, fct, Int.mul_comm ((k : Int) + 1), Int.mul_assoc]
      exact Int.eq_of_mul_eq_mul_left (by omega) h1
    rw [chs, e, Int.mul_tdiv_cancel_left _ (by omega), hq, Int.mul_comm]

theorem chs_step (n : Int) (k : Nat) : chs (n + 1) (k + 1) = chs n (k + 1) + chs n k := by
  have hp := fct_pos (k + 1)
  refine Int.eq_of_mul_eq_mul_right (a := fct (k + 1)) (by omega) ?_
  rw [chs_fct, ffn_step, Int.add_mul, chs_fct, fct, Int.mul_comm ((k : Int) + 1), ← Int.mul_assoc, chs_fct]

theorem chs_zero_succ (k : Nat) : chs 0 (k + 1) = 0 := by
  induction k with
  | zero => rfl
  | succ k ih => rw [chs, ih, Int.zero_mul, Int.zero_tdiv]

theorem tdiv_bd (x B : Int) (k : Nat) (h : -B ≤ x) (h' : x ≤ B) : -B ≤ x.tdiv (k + 1) ∧ x.tdiv (k + 1) ≤ B := by
  have hk : 0 < (k : Int) + 1 := by omega
  rcases Int.le_total 0 x with hx | hx
  · have h1 := Int.tdiv_nonneg hx (by omega : 0 ≤ (k : Int) + 1)
    have h2 := Int.tdiv_le_self ((k : Int) + 1) hx
    omega
  · have e : x.tdiv (k + 1) = -((-x).tdiv (k + 1)) := by rw [Int.neg_tdiv, Int.neg_neg]
    have h1 := Int.tdiv_nonneg (by omega : 0 ≤ -x) (by omega : 0 ≤ (k : Int) + 1)
    have h2 := Int.tdiv_le_self ((k : Int) + 1) (by omega : 0 ≤ -x)
    omega

/-- A bound of a quotient by a bound of the dividend. -/
theorem tdiv_bd' (x C : Int) (k : Nat) (h : -(C * (k + 1)) ≤ x) (h' : x ≤ C * (k + 1)) : -C ≤ x.tdiv (k + 1) ∧ x.tdiv (k + 1) ≤ C := by
  have hk : 0 < (k : Int) + 1 := by omega
  have key : ∀ y : Int, 0 ≤ y → y ≤ C * (k + 1) → y.tdiv (k + 1) ≤ C := fun y hy hy' => by
    rw [Int.tdiv_eq_ediv_of_nonneg hy]
    exact Int.ediv_le_of_le_mul hk hy'
  rcases Int.le_total 0 x with hx | hx
  · have h1 := Int.tdiv_nonneg hx (by omega : 0 ≤ (k : Int) + 1)
    have h2 := key x hx h'
    omega
  · have e : x.tdiv (k + 1) = -((-x).tdiv (k + 1)) := by rw [Int.neg_tdiv, Int.neg_neg]
    have h1 := Int.tdiv_nonneg (by omega : 0 ≤ -x) (by omega : 0 ≤ (k : Int) + 1)
    have h2 := key (-x) (by omega) (by omega)
    omega

theorem mul_bd (x y X Y : Int) (_hX : 0 ≤ X) (hx : -X ≤ x) (hx' : x ≤ X) (hy : -Y ≤ y) (hy' : y ≤ Y) : -(X * Y) ≤ x * y ∧ x * y ≤ X * Y := by
  have hY : 0 ≤ Y := by omega
  rcases Int.le_total 0 x with h | h
  · have a := Int.mul_le_mul_of_nonneg_left hy' h
    have b := Int.mul_le_mul_of_nonneg_left hy h
    have c := Int.mul_le_mul_of_nonneg_right hx' hY
    have d : x * -Y = -(x * Y) := Int.mul_neg _ _
    omega
  · have h' : 0 ≤ -x := by omega
    have a := Int.mul_le_mul_of_nonneg_left hy' h'
    have b := Int.mul_le_mul_of_nonneg_left hy h'
    have c := Int.mul_le_mul_of_nonneg_right (by omega : -x ≤ X) hY
    have d : -x * -Y = -(-x * Y) := Int.mul_neg _ _
    have e : -x * y = -(x * y) := Int.neg_mul _ _
    omega

def chB : Nat → Int
  | 0 => 1
  | 1 => 300
  | 2 => 45150
  | 3 => 4545100
  | 4 => 344291325
  | 5 => 20932912560
  | _ => 1064089721800

theorem chs_bd (n : Int) (hn : -300 ≤ n) (hn' : n ≤ 300) : ∀ k : Nat, k ≤ 6 → -chB k ≤ chs n k ∧ chs n k ≤ chB k := by
  have step : ∀ k : Nat, ∀ B C : Int, 0 ≤ B → k ≤ 5 → B * (300 + k) ≤ C * (k + 1) → (-B ≤ chs n k ∧ chs n k ≤ B) → -C ≤ chs n (k + 1) ∧ chs n (k + 1) ≤ C := by
    intro k B C hB hk hC h
    have m := mul_bd (chs n k) (n - k) B (300 + k) hB h.1 h.2 (by omega) (by omega)
    rw [chs]
    exact tdiv_bd' _ _ k (by omega) (by omega)
  have s0 : -chB 0 ≤ chs n 0 ∧ chs n 0 ≤ chB 0 := by simp [chs, chB]
  have s1 := step 0 (chB 0) (chB 1) (by decide) (by omega) (by decide) s0
  have s2 := step 1 (chB 1) (chB 2) (by decide) (by omega) (by decide) s1
  have s3 := step 2 (chB 2) (chB 3) (by decide) (by omega) (by decide) s2
  have s4 := step 3 (chB 3) (chB 4) (by decide) (by omega) (by decide) s3
  have s5 := step 4 (chB 4) (chB 5) (by decide) (by omega) (by decide) s4
  have s6 := step 5 (chB 5) (chB 6) (by decide) (by omega) (by decide) s5
  intro k hk
  match k, hk with
  | 0, _ => exact s0
  | 1, _ => exact s1
  | 2, _ => exact s2
  | 3, _ => exact s3
  | 4, _ => exact s4
  | 5, _ => exact s5
  | 6, _ => exact s6
  | k + 7, h => omega

theorem chB_le (k : Nat) (hk : k ≤ 6) : 0 ≤ chB k ∧ chB k ≤ 1064089721800 := by
  match k, hk with
  | 0, _ | 1, _ | 2, _ | 3, _ | 4, _ | 5, _ | 6, _ => exact ⟨by decide, by decide⟩
  | k + 7, h => omega

theorem chs_mul (n : Int) (hn : -300 ≤ n) (hn' : n ≤ 300) (k : Nat) (hk : k < 6) : -1000000000000000 ≤ chs n k * (n - k) ∧ chs n k * (n - k) ≤ 1000000000000000 := by
  have h := chs_bd n hn hn' k (by omega)
  have hb := chB_le k (by omega)
  have m := mul_bd (chs n k) (n - k) 1064089721800 306 (by decide) (by omega) (by omega) (by omega) (by omega)
  omega

/-- The value of a polynomial whose differences are p, beginning with the order j. -/
def valF : Nat → List Int → Int → Int
  | _, [], _ => 0
  | j, d :: r, n => d * chs n j + valF (j + 1) r n

def val (p : List Int) (n : Int) : Int := valF 0 p n

theorem valF_snoc : ∀ (p : List Int) (j : Nat) (d n : Int), valF j (p ++ [d]) n = valF j p n + d * chs n (j + p.length)
  | [], j, d, n => by simp [valF]
  | x :: p, j, d, n => by
    have h := valF_snoc p (j + 1) d n
    simp only [List.cons_append, valF, List.length_cons, h]
    rw [show j + 1 + p.length = j + (p.length + 1) from by omega]
    omega

theorem val_take (p : List Int) (k : Nat) (x n : Int) (h : p[k]? = some x) : val (p.take (k + 1)) n = val (p.take k) n + x * chs n k := by
  obtain ⟨hk, rfl⟩ := List.getElem?_eq_some_iff.1 h
  rw [List.take_succ_eq_append_getElem hk, val, valF_snoc, val, Nat.zero_add, List.length_take, Nat.min_eq_left (by omega)]

def inB (n b : Int) : Bool := decide (-b ≤ n) && decide (n ≤ b)
def allB (zs : List Int) (b : Int) : Bool := zs.all fun x => inB x b
def validP (p : List Int) : Bool := decide (1 ≤ p.length) && (decide (p.length ≤ 7) && allB p 100000)

theorem inB_iff {n b : Int} : inB n b = true ↔ -b ≤ n ∧ n ≤ b := by simp [inB]
theorem allB_iff {zs : List Int} {b : Int} : allB zs b = true ↔ ∀ x ∈ zs, -b ≤ x ∧ x ≤ b := by simp [allB, inB]
theorem validP_iff {p : List Int} : validP p = true ↔ 1 ≤ p.length ∧ p.length ≤ 7 ∧ ∀ x ∈ p, -100000 ≤ x ∧ x ≤ 100000 := by
  simp [validP, allB_iff]

theorem valF_bd : ∀ (p : List Int) (j : Nat) (B n : Int), 0 ≤ B → -300 ≤ n → n ≤ 300 → j + p.length ≤ 7 → (∀ x ∈ p, -B ≤ x ∧ x ≤ B) →
    -(p.length * (B * 1064089721800)) ≤ valF j p n ∧ valF j p n ≤ p.length * (B * 1064089721800)
  | [], j, B, n, _, _, _, _, _ => by simp [valF]
  | d :: r, j, B, n, hB, hn, hn', hl, hx => by
    simp only [List.length_cons] at hl
    have ih := valF_bd r (j + 1) B n hB hn hn' (by omega) fun x hx' => hx x (List.mem_cons_of_mem _ hx')
    have hd := hx d List.mem_cons_self
    have hc := chs_bd n hn hn' j (by omega)
    have hb := chB_le j (by omega)
    have m := mul_bd d (chs n j) B 1064089721800 hB hd.1 hd.2 (by omega) (by omega)
    simp only [valF, List.length_cons]
    have e : ((r.length + 1 : Nat) : Int) * (B * 1064089721800) = r.length * (B * 1064089721800) + B * 1064089721800 := by
      push_cast; rw [Int.add_mul, Int.one_mul]
    omega

theorem val_bd {p : List Int} (hp : p.length ≤ 7) (hx : ∀ x ∈ p, -100000 ≤ x ∧ x ≤ 100000) (n : Int) (hn : -300 ≤ n) (hn' : n ≤ 300) : -744862805260000000 ≤ val p n ∧ val p n ≤ 744862805260000000 := by
  have h := valF_bd p 0 100000 n (by decide) hn hn' (by omega) hx
  have e : (p.length : Int) * (100000 * 1064089721800) = p.length * 106408972180000000 := by simp
  rw [e] at h
  unfold val
  omega

end Go.Proofs.Ytinhcdppdnmlgaa

/- Plain mathematics: differences of neighbors, first differences, and what the program's functions on polynomials reckon. -/
namespace Go.Proofs.Ytinhcdppdnmlgaa

def nbr : List Int → List Int
  | a :: b :: r => (b - a) :: nbr (b :: r)
  | _ => []

theorem nbr_length : ∀ zs : List Int, (nbr zs).length = zs.length - 1
  | [] => rfl
  | [_] => rfl
  | _ :: b :: r => by simp [nbr, nbr_length (b :: r)]

theorem nbr_at : ∀ (zs : List Int) (k : Nat) (x y : Int), zs[k]? = some x → zs[k+1]? = some y → (nbr zs)[k]? = some (y - x)
  | [], k, x, y, h, _ => by simp at h
  | [_], k, x, y, _, h => by simp at h
  | a :: b :: r, 0, x, y, h, h' => by simp at h h'; subst h h'; simp [nbr]
  | a :: b :: r, k + 1, x, y, h, h' => by
    simp only [nbr, List.getElem?_cons_succ]
    exact nbr_at (b :: r) k x y (by simpa using h) (by simpa using h')

theorem nbr_bd : ∀ (zs : List Int) (B : Int), (∀ x ∈ zs, -B ≤ x ∧ x ≤ B) → ∀ x ∈ nbr zs, -(2 * B) ≤ x ∧ x ≤ 2 * B
  | [], B, _, x, hx => by simp [nbr] at hx
  | [_], B, _, x, hx => by simp [nbr] at hx
  | a :: b :: r, B, h, x, hx => by
    simp only [nbr, List.mem_cons] at hx
    rcases hx with rfl | hx
    · have h1 := h a (by simp)
      have h2 := h b (by simp)
      omega
    · exact nbr_bd (b :: r) B (fun y hy => h y (List.mem_cons_of_mem _ hy)) x hx

theorem nbr_short (zs : List Int) (h : zs.length < 2) : nbr zs = [] := by
  rcases zs with _ | ⟨a, _ | ⟨b, r⟩⟩
  · rfl
  · rfl
  · simp at h; omega

/-- The first number of a list, of its differences, and so on, n times at most. -/
def fdN : Nat → List Int → List Int
  | 0, _ => []
  | _ + 1, [] => []
  | n + 1, a :: r => a :: fdN n (nbr (a :: r))
def fd (zs : List Int) : List Int := fdN zs.length zs

theorem fdN_length : ∀ (n : Nat) (zs : List Int), zs.length ≤ n → (fdN n zs).length = zs.length
  | 0, zs, h => by simp [fdN]; omega
  | n + 1, [], _ => by simp [fdN]
  | n + 1, a :: r, h => by
    simp only [fdN, List.length_cons]
    rw [fdN_length n _ (by rw [nbr_length]; simp at h ⊢; omega), nbr_length]
    simp
theorem fd_length (zs : List Int) : (fd zs).length = zs.length := fdN_length _ _ (Nat.le_refl _)

/-- The row of the k-th differences. -/
def nbrs : Nat → List Int → List Int
  | 0, zs => zs
  | k + 1, zs => nbr (nbrs k zs)

theorem nbrs_length (k : Nat) (zs : List Int) : (nbrs k zs).length = zs.length - k := by
  induction k with
  | zero => rfl
  | succ k ih => rw [nbrs, nbr_length, ih]; omega

theorem nbrs_nbr (k : Nat) (zs : List Int) : nbrs k (nbr zs) = nbrs (k + 1) zs := by
  induction k with
  | zero => rfl
  | succ k ih => rw [nbrs, ih]; rfl

theorem fdN_at : ∀ (n : Nat) (zs : List Int) (k : Nat) (x : Int), zs.length ≤ n → (nbrs k zs)[0]? = some x → (fdN n zs)[k]? = some x
  | 0, zs, k, x, h, hx => by
    have : (nbrs k zs).length = 0 := by rw [nbrs_length]; omega
    rw [List.eq_nil_of_length_eq_zero this] at hx; simp at hx
  | n + 1, [], k, x, h, hx => by
    have : (nbrs k ([] : List Int)).length = 0 := by rw [nbrs_length]; simp
    rw [List.eq_nil_of_length_eq_zero this] at hx; simp at hx
  | n + 1, a :: r, 0, x, h, hx => by simp [nbrs] at hx; simp [fdN, hx]
  | n + 1, a :: r, k + 1, x, h, hx => by
    simp only [fdN, List.getElem?_cons_succ]
    exact fdN_at n _ k x (by rw [nbr_length]; simp at h ⊢; omega) (by rw [nbrs_nbr]; exact hx)
theorem fd_at (zs : List Int) (k : Nat) (x : Int) (hx : (nbrs k zs)[0]? = some x) : (fd zs)[k]? = some x := fdN_at _ _ _ _ (Nat.le_refl _) hx

theorem nbrs_bd (zs : List Int) (B : Int) (h : ∀ x ∈ zs, -B ≤ x ∧ x ≤ B) : ∀ k, ∀ x ∈ nbrs k zs, -(2 ^ k * B) ≤ x ∧ x ≤ 2 ^ k * B
  | 0 => by simpa [nbrs] using h
  | k + 1 => by
    intro x hx
    have := nbr_bd _ (2 ^ k * B) (nbrs_bd zs B h k) x hx
    have e : (2 : Int) ^ (k + 1) * B = 2 * (2 ^ k * B) := by rw [Int.pow_succ, Int.mul_comm (2 ^ k), Int.mul_assoc]
    rw [e]; exact this

def chk (p : List Int) : Option (List Int) := if validP p then some p else none

end Go.Proofs.Ytinhcdppdnmlgaa

/- Plain mathematics: bounds of values by tables of binomial coefficients; what each of the program's functions on polynomials reckons. -/
namespace Go.Proofs.Ytinhcdppdnmlgaa

/-- T bounds the binomial coefficients of all n between -M and M. -/
structure ChTab (M : Int) (T : Nat → Int) : Prop where
  pos : 0 ≤ M
  zero : T 0 = 1
  step : ∀ k : Nat, k < 6 → T k * (M + k) ≤ T (k + 1) * (k + 1)
  nonneg : ∀ k : Nat, k ≤ 6 → 0 ≤ T k

theorem ChTab.bd {M : Int} {T : Nat → Int} (h : ChTab M T) (n : Int) (hn : -M ≤ n) (hn' : n ≤ M) : ∀ k : Nat, k ≤ 6 → -T k ≤ chs n k ∧ chs n k ≤ T k
  | 0, _ => by rw [h.zero]; simp [chs]
  | k + 1, hk => by
    have ih := h.bd n hn hn' k (by omega)
    have hM := h.pos
    have m := mul_bd (chs n k) (n - k) (T k) (M + k) (h.nonneg k (by omega)) ih.1 ih.2 (by omega) (by omega)
    have s := h.step k (by omega)
    rw [chs]
    exact tdiv_bd' _ _ k (by omega) (by omega)

/-- The sum of the entries from j on, c of them. -/
def sumT (T : Nat → Int) : Nat → Nat → Int
  | _, 0 => 0
  | j, c + 1 => T j + sumT T (j + 1) c

theorem ChTab.valF {M : Int} {T : Nat → Int} (h : ChTab M T) (B : Int) (hB : 0 ≤ B) (n : Int) (hn : -M ≤ n) (hn' : n ≤ M) :
    ∀ (p : List Int) (j : Nat), j + p.length ≤ 7 → (∀ x ∈ p, -B ≤ x ∧ x ≤ B) → -(B * sumT T j p.length) ≤ valF j p n ∧ valF j p n ≤ B * sumT T j p.length
  | [], j, _, _ => by simp [Go.Proofs.Ytinhcdppdnmlgaa.valF, sumT]
  | d :: r, j, hl, hx => by
    simp only [List.length_cons] at hl
    have ih := h.valF B hB n hn hn' r (j + 1) (by omega) fun x hx' => hx x (List.mem_cons_of_mem _ hx')
    have hd := hx d List.mem_cons_self
    have hc := h.bd n hn hn' j (by omega)
    have m := mul_bd d (chs n j) B (T j) hB hd.1 hd.2 hc.1 hc.2
    simp only [Go.Proofs.Ytinhcdppdnmlgaa.valF, List.length_cons, sumT, Int.mul_add]
    omega

theorem sumT_mono {M : Int} {T : Nat → Int} (h : ChTab M T) : ∀ (c j : Nat), j + c ≤ 7 → sumT T j c ≤ sumT T j (7 - j)
  | 0, j, _ => by
    have : ∀ c j : Nat, j + c ≤ 7 → 0 ≤ sumT T j c := by
      intro c
      induction c with
      | zero => intro j _; exact Int.le_refl _
      | succ c ih => intro j hj; have := h.nonneg j (by omega); have := ih (j + 1) (by omega); simp only [sumT]; omega
    exact this _ _ (by omega)
  | c + 1, j, hj => by
    have ih := sumT_mono h c (j + 1) (by omega)
    rw [show 7 - j = (7 - (j + 1)) + 1 from by omega]
    simp only [sumT]
    omega

theorem ChTab.val {M : Int} {T : Nat → Int} (h : ChTab M T) (B : Int) (hB : 0 ≤ B) (n : Int) (hn : -M ≤ n) (hn' : n ≤ M) (p : List Int) (hl : p.length ≤ 7) (hx : ∀ x ∈ p, -B ≤ x ∧ x ≤ B) :
    -(B * sumT T 0 7) ≤ val p n ∧ val p n ≤ B * sumT T 0 7 := by
  have h1 := h.valF B hB n hn hn' p 0 (by omega) hx
  have h2 := sumT_mono h p.length 0 (by omega)
  have h3 := Int.mul_le_mul_of_nonneg_left h2 hB
  unfold Go.Proofs.Ytinhcdppdnmlgaa.val
  simp only [Nat.sub_zero] at h3
  omega

def ch60 : Nat → Int
  | 0 => 1
  | 1 => 60
  | 2 => 1830
  | 3 => 37820
  | 4 => 595665
  | 5 => 7624512
  | _ => 82598880
def ch10 : Nat → Int
  | 0 => 1
  | 1 => 10
  | 2 => 55
  | 3 => 220
  | 4 => 715
  | 5 => 2002
  | _ => 5005

theorem ch60_tab : ChTab 60 ch60 := ⟨by decide, rfl, by decide, by decide⟩
theorem ch10_tab : ChTab 10 ch10 := ⟨by decide, rfl, by decide, by decide⟩

theorem val60 {p : List Int} (hv : validP p = true) {n : Int} (hn : -60 ≤ n) (hn' : n ≤ 60) : -10000000000000 ≤ val p n ∧ val p n ≤ 10000000000000 := by
  obtain ⟨_, h2, h3⟩ := validP_iff.1 hv
  have h := ch60_tab.val 100000 (by decide) n hn hn' p h2 h3
  have e : sumT ch60 0 7 = 90858768 := by decide
  rw [e] at h
  omega
theorem val10 {p : List Int} (hv : validP p = true) {n : Int} (hn : -10 ≤ n) (hn' : n ≤ 10) : -1000000000 ≤ val p n ∧ val p n ≤ 1000000000 := by
  obtain ⟨_, h2, h3⟩ := validP_iff.1 hv
  have h := ch10_tab.val 100000 (by decide) n hn hn' p h2 h3
  have e : sumT ch10 0 7 = 8008 := by decide
  rw [e] at h
  omega

def ch6 : Nat → Int
  | 0 => 1
  | 1 => 6
  | 2 => 21
  | 3 => 56
  | 4 => 126
  | 5 => 252
  | _ => 462
theorem ch6_tab : ChTab 6 ch6 := ⟨by decide, rfl, by decide, by decide⟩
theorem val6 {p : List Int} (hv : validP p = true) (n : Nat) (hn : n ≤ 6) : -100000000 ≤ val p n ∧ val p n ≤ 100000000 := by
  obtain ⟨_, h2, h3⟩ := validP_iff.1 hv
  have h := ch6_tab.val 100000 (by decide) n (by omega) (by omega) p h2 h3
  have e : sumT ch6 0 7 = 924 := by decide
  rw [e] at h
  omega

def ch210 : Nat → Int
  | 0 => 1
  | 1 => 210
  | 2 => 22155
  | 3 => 1565620
  | 4 => 83369265
  | 5 => 3568204542
  | _ => 127860662755
theorem ch210_tab : ChTab 210 ch210 := ⟨by decide, rfl, by decide, by decide⟩
theorem val210 {p : List Int} (hv : validP p = true) {n : Int} (hn : -210 ≤ n) (hn' : n ≤ 210) : -31000000000000000 ≤ val p n ∧ val p n ≤ 31000000000000000 := by
  obtain ⟨_, h2, h3⟩ := validP_iff.1 hv
  have h := ch210_tab.val 100000 (by decide) n hn hn' p h2 h3
  have e : sumT ch210 0 7 = 131513824548 := by decide
  rw [e] at h
  omega

/-- A list of n numbers, the i-th being f i. -/
def tab (n : Nat) (f : Nat → Int) : List Int := (List.range n).map f
theorem tab_length (n : Nat) (f : Nat → Int) : (tab n f).length = n := by simp [tab]
theorem tab_at {n : Nat} (f : Nat → Int) {k : Nat} (h : k < n) : (tab n f)[k]? = some (f k) := by simp [tab, h]
theorem tab_mem {n : Nat} {f : Nat → Int} {x : Int} (h : x ∈ tab n f) : ∃ i, i < n ∧ f i = x := by simpa [tab] using h
theorem tab_congr {n : Nat} {f g : Nat → Int} (h : ∀ i, i < n → f i = g i) : tab n f = tab n g := by
  unfold tab
  exact List.map_congr_left fun i hi => h i (by simpa using hi)
theorem tab_drop_eq (p : List Int) : tab p.length (fun k => p.getD k 0) = p := by
  apply List.ext_getElem?
  intro k
  by_cases h : k < p.length
  · rw [tab_at _ h, List.getElem?_eq_getElem h]; simp [h]
  · rw [List.getElem?_eq_none (by rw [tab_length]; omega), List.getElem?_eq_none (by omega)]

theorem nbrs_small {zs : List Int} {B : Int} (hB : 0 ≤ B) (hl : zs.length ≤ 7) (hb : B * 64 ≤ 2000000000000000000) (h : ∀ x ∈ zs, -B ≤ x ∧ x ≤ B) :
    ∀ k, k < zs.length → ∀ x ∈ nbrs k zs, -2000000000000000000 ≤ x ∧ x ≤ 2000000000000000000 := by
  intro k hk x hx
  have h1 := nbrs_bd zs B h k x hx
  have h2 : (2 : Int) ^ k * B ≤ 64 * B := by
    refine Int.mul_le_mul_of_nonneg_right ?_ hB
    match k, (by omega : k ≤ 6) with
    | 0, _ | 1, _ | 2, _ | 3, _ | 4, _ | 5, _ | 6, _ => decide
    | k + 7, h => omega
  omega

def evl (p : List Int) (n : Int) : Int := if validP p && inB n 200 then val p n else 0
def shiftP (p : List Int) (n : Int) : Option (List Int) := if validP p && inB n 200 then chk (tab p.length fun k => val (p.drop k) n) else none
def sumP (p : List Int) (c : Int) : Option (List Int) := if validP p then chk (c :: p) else none
def diffP (p : List Int) : List Int := if validP p then (if p.length = 1 then [0] else p.drop 1) else []
def addP (p q : List Int) : Option (List Int) := if validP p && validP q then chk (tab (max p.length q.length) fun k => p.getD k 0 + q.getD k 0) else none
def scaleP (p : List Int) (k : Int) : Option (List Int) := if validP p && inB k 100000 then chk (p.map (· * k)) else none
def mulP (p q : List Int) : Option (List Int) :=
  if validP p && (validP q && decide (p.length + q.length - 1 ≤ 7)) then chk (fd (tab (p.length + q.length - 1) fun n => val p n * val q n)) else none
def stepP (p : List Int) (m : Int) : Option (List Int) := if validP p && (decide (1 ≤ m) && decide (m ≤ 10)) then chk (fd (tab p.length fun n => val p (m * n))) else none
def turnP (p : List Int) : Option (List Int) := if validP p then chk (fd (tab p.length fun n => val p (-n))) else none

end Go.Proofs.Ytinhcdppdnmlgaa

/- Plain mathematics: a polynomial's values follow from its differences; sums, shifts, steps. -/
namespace Go.Proofs.Ytinhcdppdnmlgaa

theorem valF_step : ∀ (p : List Int) (j : Nat) (n : Int), valF (j + 1) p (n + 1) = valF (j + 1) p n + valF j p n
  | [], j, n => by simp [valF]
  | d :: r, j, n => by
    have ih := valF_step r (j + 1) n
    have hc := chs_step n j
    simp only [valF, ih, hc, Int.mul_add]
    omega

/-- The step from one argument to the next adds the value of the differences. -/
theorem val_step (p : List Int) (n : Int) : val p (n + 1) = val p n + val (p.drop 1) n := by
  cases p with
  | nil => simp [val, valF]
  | cons d r =>
    have h := valF_step r 0 n
    simp only [val, valF, List.drop_succ_cons, List.drop_zero, chs, Nat.zero_add] at h ⊢
    omega

theorem valF_zero : ∀ (p : List Int) (j : Nat), valF (j + 1) p 0 = 0
  | [], _ => rfl
  | d :: r, j => by rw [valF, valF_zero r (j + 1), chs_zero_succ]; simp
theorem val_zero (d : Int) (r : List Int) : val (d :: r) 0 = d := by
  rw [val, valF, valF_zero]; simp [chs]

theorem evl_in {p : List Int} (hv : validP p = true) {n : Int} (h1 : -200 ≤ n) (h2 : n ≤ 200) : evl p n = val p n := by
  rw [evl, hv, inB_iff.2 ⟨h1, h2⟩]; rfl

theorem sumP_some {p q : List Int} {c : Int} (h : sumP p c = some q) : q = c :: p ∧ validP p = true ∧ validP q = true := by
  unfold sumP chk at h
  split at h
  · split at h
    · injection h with h
      subst h
      exact ⟨rfl, by assumption, by assumption⟩
    · cases h
  · cases h

theorem sum_step {p q : List Int} {c : Int} (h : sumP p c = some q) (n : Int) (h1 : -200 ≤ n) (h2 : n < 200) : evl q (n + 1) = evl q n + evl p n := by
  obtain ⟨rfl, hp, hq⟩ := sumP_some h
  rw [evl_in hq (by omega) (by omega), evl_in hq (by omega) (by omega), evl_in hp (by omega) (by omega), val_step]
  rfl

theorem sum_start {p q : List Int} {c : Int} (h : sumP p c = some q) : evl q 0 = c := by
  obtain ⟨rfl, hp, hq⟩ := sumP_some h
  rw [evl_in hq (by omega) (by omega), val_zero]

theorem sum_diff {p q : List Int} {c : Int} (h : sumP p c = some q) : diffP q = p ∧ q[0]? = some c := by
  obtain ⟨rfl, hp, hq⟩ := sumP_some h
  obtain ⟨h1, _⟩ := validP_iff.1 hp
  refine ⟨?_, rfl⟩
  rw [diffP, hq, if_pos rfl, if_neg (by rw [List.length_cons]; omega)]
  rfl

theorem evl_bd60 {p : List Int} {n : Int} (h1 : -60 ≤ n) (h2 : n ≤ 60) : -10000000000000 ≤ evl p n ∧ evl p n ≤ 10000000000000 := by
  unfold evl
  split
  · rename_i h
    simp only [Bool.and_eq_true] at h
    exact val60 h.1 h1 h2
  · omega

end Go.Proofs.Ytinhcdppdnmlgaa

/- Plain mathematics: functions with vanishing differences; a polynomial is known by as many values as it has differences. -/
namespace Go.Proofs.Ytinhcdppdnmlgaa

/-- The difference of a function of the integers. -/
def dlt (f : Int → Int) : Int → Int := fun n => f (n + 1) - f n
def dlts : Nat → (Int → Int) → Int → Int
  | 0, f => f
  | k + 1, f => dlt (dlts k f)

theorem dlts_dlt (k : Nat) (f : Int → Int) : dlts k (dlt f) = dlts (k + 1) f := by
  induction k with
  | zero => rfl
  | succ k ih => rw [dlts, ih]; rfl

/-- All differences of order L vanish. -/
def Flat (L : Nat) (f : Int → Int) : Prop := ∀ n, dlts L f n = 0

theorem dlt_val (p : List Int) : dlt (val p) = val (p.drop 1) := by
  funext n; rw [dlt, val_step]; omega
theorem dlts_val : ∀ (k : Nat) (p : List Int), dlts k (val p) = val (p.drop k)
  | 0, p => by simp [dlts]
  | k + 1, p => by rw [dlts, dlts_val k p, dlt_val, List.drop_drop]
theorem val_nil (n : Int) : val [] n = 0 := rfl
theorem flat_val (p : List Int) : Flat p.length (val p) := fun n => by rw [dlts_val, List.drop_length]; rfl

theorem dlts_zero (k : Nat) : dlts k (fun _ => 0) = fun _ => 0 := by
  induction k with
  | zero => rfl
  | succ k ih => rw [dlts, ih]; funext n; simp [dlt]

theorem Flat.mono {L M : Nat} {f : Int → Int} (h : Flat L f) (hM : L ≤ M) : Flat M f := by
  obtain ⟨d, rfl⟩ : ∃ d, M = L + d := ⟨M - L, by omega⟩
  clear hM
  induction d with
  | zero => exact h
  | succ d ih =>
    intro n
    show dlt (dlts (L + d) f) n = 0
    rw [dlt, ih (n + 1), ih n]; rfl

theorem Flat.dlt {L : Nat} {f : Int → Int} (h : Flat (L + 1) f) : Flat L (dlt f) := fun n => by rw [dlts_dlt]; exact h n
theorem Flat.of_dlt {L : Nat} {f : Int → Int} (h : Flat L (Go.Proofs.Ytinhcdppdnmlgaa.dlt f)) : Flat (L + 1) f := fun n => by rw [← dlts_dlt]; exact h n

theorem dlts_sub : ∀ (k : Nat) (f g : Int → Int), dlts k (fun n => f n - g n) = fun n => dlts k f n - dlts k g n
  | 0, f, g => rfl
  | k + 1, f, g => by rw [dlts, dlts_sub k f g]; funext n; simp only [dlts, dlt]; omega
theorem dlts_add : ∀ (k : Nat) (f g : Int → Int), dlts k (fun n => f n + g n) = fun n => dlts k f n + dlts k g n
  | 0, f, g => rfl
  | k + 1, f, g => by rw [dlts, dlts_add k f g]; funext n; simp only [dlts, dlt]; omega
theorem Flat.sub {L : Nat} {f g : Int → Int} (h : Flat L f) (k : Flat L g) : Flat L (fun n => f n - g n) := fun n => by rw [dlts_sub]; show dlts L f n - dlts L g n = 0; rw [h n, k n]; rfl
theorem Flat.add {L : Nat} {f g : Int → Int} (h : Flat L f) (k : Flat L g) : Flat L (fun n => f n + g n) := fun n => by rw [dlts_add]; show dlts L f n + dlts L g n = 0; rw [h n, k n]; rfl

theorem const_of_dlt {f : Int → Int} (h : ∀ n, dlt f n = 0) : ∀ n, f n = f 0 :=
  int_ind rfl (fun n hn => by have := h n; unfold dlt at this; omega) (fun n hn => by have := h n; unfold dlt at this; omega)

theorem Flat.zero : ∀ {L : Nat} {f : Int → Int}, Flat L f → (∀ i : Nat, i < L → f i = 0) → ∀ n, f n = 0
  | 0, f, h, _, n => h n
  | L + 1, f, h, h0, n => by
    have hd : ∀ n, Go.Proofs.Ytinhcdppdnmlgaa.dlt f n = 0 := Flat.zero h.dlt fun i hi => by
      have h1 := h0 i (by omega)
      have h2 := h0 (i + 1) (by omega)
      unfold Go.Proofs.Ytinhcdppdnmlgaa.dlt
      rw [show ((i : Int) + 1) = ((i + 1 : Nat) : Int) by omega, h1, h2]; rfl
    rw [const_of_dlt hd n]
    exact h0 0 (by omega)

/-- Two such functions that agree at L arguments agree everywhere. -/
theorem Flat.eq {L : Nat} {f g : Int → Int} (h : Flat L f) (k : Flat L g) (hv : ∀ i : Nat, i < L → f i = g i) (n : Int) : f n = g n := by
  have := Flat.zero (h.sub k) (fun i hi => by rw [hv i hi]; omega) n
  omega

theorem dlts_comp_shift (c : Int) : ∀ (k : Nat) (f : Int → Int), dlts k (fun n => f (n + c)) = fun n => dlts k f (n + c)
  | 0, f => rfl
  | k + 1, f => by
    rw [dlts, dlts_comp_shift c k f]; funext n
    simp only [dlts, dlt]
    rw [show n + 1 + c = n + c + 1 by omega]
theorem Flat.shift {L : Nat} {f : Int → Int} (h : Flat L f) (c : Int) : Flat L (fun n => f (n + c)) := fun n => by rw [dlts_comp_shift]; exact h _

/-- A jump of m lowers the order. -/
theorem Flat.jump {L : Nat} {f : Int → Int} (h : Flat (L + 1) f) (m : Int) : Flat L (fun n => f (n + m) - f n) := by
  have hn : ∀ k : Nat, Flat L (fun n => f (n + k) - f n) := by
    intro k
    induction k with
    | zero =>
      intro n
      have : (fun n => f (n + ((0 : Nat) : Int)) - f n) = fun _ => 0 := by funext n; simp
      rw [this, dlts_zero]
    | succ k ih =>
      have h1 := (h.dlt.shift (k : Int)).add ih
      have e : (fun n => Go.Proofs.Ytinhcdppdnmlgaa.dlt f (n + (k : Int)) + (f (n + (k : Int)) - f n)) = fun n => f (n + ((k + 1 : Nat) : Int)) - f n := by
        funext n
        unfold Go.Proofs.Ytinhcdppdnmlgaa.dlt
        rw [show n + (k : Int) + 1 = n + ((k + 1 : Nat) : Int) by omega]
        omega
      rw [e] at h1
      exact h1
  rcases Int.eq_nat_or_neg m with ⟨k, rfl | rfl⟩
  · exact hn k
  · have h1 := (hn k).shift (-(k : Int))
    intro n
    have h2 : (fun n => f (n + -(k : Int)) - f n) = fun n => 0 - (f (n + -(k : Int) + (k : Int)) - f (n + -(k : Int))) := by
      funext n
      rw [show n + -(k : Int) + (k : Int) = n by omega]
      omega
    rw [h2, dlts_sub, dlts_zero]
    show (0 : Int) - dlts L (fun n => f (n + -(k : Int) + (k : Int)) - f (n + -(k : Int))) n = 0
    rw [h1 n]; rfl

/-- Every m-th value. -/
theorem Flat.step : ∀ {L : Nat} {f : Int → Int}, Flat L f → ∀ m : Int, Flat L (fun n => f (m * n))
  | 0, f, h, m => fun n => h (m * n)
  | L + 1, f, h, m => by
    refine Flat.of_dlt ?_
    have h1 := Flat.step (h.jump m) m
    have e : Go.Proofs.Ytinhcdppdnmlgaa.dlt (fun n => f (m * n)) = fun n => f (m * n + m) - f (m * n) := by
      funext n
      show f (m * (n + 1)) - f (m * n) = _
      rw [Int.mul_add, Int.mul_one]
    rw [e]; exact h1

/-- A list's first differences give its numbers back. -/
theorem fd_cons (a : Int) (r : List Int) : fd (a :: r) = a :: fd (nbr (a :: r)) := by
  unfold fd
  rw [List.length_cons, fdN, nbr_length]
  simp

theorem val_fd : ∀ (L : Nat) (zs : List Int), zs.length ≤ L → ∀ (i : Nat) (x : Int), zs[i]? = some x → val (fd zs) i = x
  | 0, zs, h, i, x, hx => by
    have : zs = [] := List.eq_nil_of_length_eq_zero (by omega)
    subst this; simp at hx
  | L + 1, [], _, i, x, hx => by simp at hx
  | L + 1, a :: r, h, i, x, hx => by
    induction i generalizing x with
    | zero =>
      rw [fd_cons]
      simp at hx
      subst hx
      exact val_zero _ _
    | succ i ih =>
      have hi : i < (a :: r).length := by have := (List.getElem?_eq_some_iff.1 hx).1; omega
      obtain ⟨y, hy⟩ : ∃ y, (a :: r)[i]? = some y := ⟨_, List.getElem?_eq_getElem hi⟩
      have h1 := ih y hy
      have h2 := val_fd L (nbr (a :: r)) (by rw [nbr_length]; simp at h ⊢; omega) i (x - y) (nbr_at _ i y x hy hx)
      rw [show ((i + 1 : Nat) : Int) = (i : Int) + 1 by omega, val_step, h1, fd_cons, List.drop_succ_cons, List.drop_zero, h2]
      omega

/-- The first differences of the values of such a function are a polynomial with just its values. -/
theorem val_fd_tab {L : Nat} {f : Int → Int} (h : Flat L f) (n : Int) : val (fd (tab L fun i => f i)) n = f n := by
  refine Flat.eq (L := L) ?_ h (fun i hi => ?_) n
  · have := flat_val (fd (tab L fun i => f i))
    rwa [fd_length, tab_length] at this
  · exact val_fd L _ (by rw [tab_length]; exact Nat.le_refl _) i _ (tab_at _ hi)

/-- Polynomials of one length with the same values are the same. -/
theorem val_inj : ∀ (L : Nat) (p q : List Int), p.length = L → q.length = L → (∀ n, val p n = val q n) → p = q
  | 0, p, q, hp, hq, _ => by rw [List.eq_nil_of_length_eq_zero hp, List.eq_nil_of_length_eq_zero hq]
  | L + 1, [], q, hp, _, _ => by simp at hp
  | L + 1, p, [], _, hq, _ => by simp at hq
  | L + 1, a :: p, b :: q, hp, hq, h => by
    have h0 := h 0
    rw [val_zero, val_zero] at h0
    have hr := val_inj L p q (by simpa using hp) (by simpa using hq) fun n => by
      have h1 := val_step (a :: p) n
      have h2 := val_step (b :: q) n
      rw [h n, h (n + 1)] at h1
      simp only [List.drop_succ_cons, List.drop_zero] at h1 h2
      omega
    rw [h0, hr]

theorem fd_unique {L : Nat} {p : List Int} {f : Int → Int} (hp : p.length = L) (h : ∀ n, f n = val p n) : fd (tab L fun i => f i) = p := by
  have hf : Flat L f := by
    have := flat_val p
    rw [hp] at this
    rwa [show f = val p from funext h]
  exact val_inj L _ _ (by rw [fd_length, tab_length]) hp fun n => by rw [val_fd_tab hf, h]

end Go.Proofs.Ytinhcdppdnmlgaa

/- Plain mathematics: what the laws on steps, turns and shifts say. -/
namespace Go.Proofs.Ytinhcdppdnmlgaa

theorem chk_some {p q : List Int} (h : chk p = some q) : q = p ∧ validP q = true := by
  unfold chk at h
  split at h
  · injection h with h; subst h; exact ⟨rfl, by assumption⟩
  · cases h
theorem chk_of {p : List Int} (h : validP p = true) : chk p = some p := by rw [chk, h]; rfl

theorem stepP_some {p q : List Int} {m : Int} (h : stepP p m = some q) : validP p = true ∧ validP q = true ∧ (1 ≤ m ∧ m ≤ 10) ∧ q = fd (tab p.length fun i => val p (m * i)) ∧ q.length = p.length ∧ ∀ n, val q n = val p (m * n) := by
  unfold stepP at h
  split at h
  · rename_i hc
    simp only [Bool.and_eq_true, decide_eq_true_eq] at hc
    obtain ⟨e, hq⟩ := chk_some h
    refine ⟨hc.1, hq, hc.2, e, by rw [e, fd_length, tab_length], fun n => ?_⟩
    rw [e]
    exact val_fd_tab ((flat_val p).step m) n
  · cases h

theorem turnP_some {p q : List Int} (h : turnP p = some q) : validP p = true ∧ validP q = true ∧ q = fd (tab p.length fun i => val p (-i)) ∧ q.length = p.length ∧ ∀ n, val q n = val p (-n) := by
  unfold turnP at h
  split at h
  · rename_i hc
    obtain ⟨e, hq⟩ := chk_some h
    refine ⟨hc, hq, e, by rw [e, fd_length, tab_length], fun n => ?_⟩
    have hf : Flat p.length fun n => val p (-n) := by
      have := (flat_val p).step (-1)
      rwa [show (fun n => val p (-1 * n)) = fun n => val p (-n) from funext fun n => by rw [show -1 * n = -n by omega]] at this
    rw [e]
    exact val_fd_tab hf n
  · cases h

theorem step_evl {p q : List Int} {m : Int} (h : stepP p m = some q) {n : Int} (h1 : -8 ≤ n) (h2 : n ≤ 8) : evl q n = evl p (m * n) := by
  obtain ⟨hp, hq, hm, _, _, hv⟩ := stepP_some h
  have := mul_bd m n 10 8 (by decide) (by omega) (by omega) (by omega) (by omega)
  rw [evl_in hq (by omega) (by omega), evl_in hp (by omega) (by omega), hv]

theorem turn_evl {p q : List Int} (h : turnP p = some q) {n : Int} (h1 : -8 ≤ n) (h2 : n ≤ 8) : evl q n = evl p (-n) := by
  obtain ⟨hp, hq, _, _, hv⟩ := turnP_some h
  rw [evl_in hq (by omega) (by omega), evl_in hp (by omega) (by omega), hv]

theorem turn_turn {p q : List Int} (h : turnP p = some q) : turnP q = some p := by
  obtain ⟨hp, hq, _, hl, hv⟩ := turnP_some h
  rw [turnP, if_pos hq]
  have e : fd (tab q.length fun i => val q (-i)) = p := fd_unique (L := q.length) (f := fun n => val q (-n)) hl.symm fun n => by rw [hv, Int.neg_neg]
  rw [e]; exact chk_of hp

theorem step_one {p q : List Int} (h : stepP p 1 = some q) : q = p := by
  obtain ⟨hp, hq, _, e, hl, hv⟩ := stepP_some h
  exact val_inj p.length q p hl rfl fun n => by rw [hv, Int.one_mul]

end Go.Proofs.Ytinhcdppdnmlgaa

/- Plain mathematics: the differences of a polynomial's values at later arguments; shifted polynomials. -/
namespace Go.Proofs.Ytinhcdppdnmlgaa

theorem tab_succ (L : Nat) (g : Nat → Int) : tab (L + 1) g = g 0 :: tab L (fun i => g (i + 1)) := by
  simp [tab, List.range_succ_eq_map]

theorem nbr_tab (L : Nat) (g : Nat → Int) : nbr (tab (L + 1) g) = tab L (fun i => g (i + 1) - g i) := by
  apply List.ext_getElem?
  intro k
  by_cases hk : k < L
  · rw [nbr_at _ k _ _ (tab_at g (by omega : k < L + 1)) (tab_at g (by omega : k + 1 < L + 1)), tab_at _ hk]
  · rw [List.getElem?_eq_none (by rw [nbr_length, tab_length]; omega), List.getElem?_eq_none (by rw [tab_length]; omega)]

theorem fd_tab : ∀ (L : Nat) (F : Int → Int) (a : Int), fd (tab L fun i => F (a + i)) = tab L fun k => dlts k F a
  | 0, F, a => rfl
  | L + 1, F, a => by
    have h1 := nbr_tab L fun i => F (a + i)
    have h2 : (tab L fun i => F (a + ((i + 1 : Nat) : Int)) - F (a + (i : Int))) = tab L fun i => dlt F (a + i) := tab_congr fun i _ => by
      unfold dlt
      rw [show a + ((i + 1 : Nat) : Int) = a + (i : Int) + 1 by omega]
    rw [h2] at h1
    have h3 := tab_succ L fun i => F (a + i)
    rw [h3, fd_cons, ← h3, h1, fd_tab L (dlt F) a, tab_succ]
    simp only [dlts_dlt, dlts, Int.natCast_zero, Int.add_zero]

theorem fd_vals (p : List Int) (a : Int) : fd (tab p.length fun i => val p (a + i)) = tab p.length fun k => val (p.drop k) a := by
  rw [fd_tab]
  exact tab_congr fun k _ => by rw [dlts_val]

theorem shiftP_eq (p : List Int) (n : Int) : shiftP p n = if validP p && inB n 200 then chk (fd (tab p.length fun i => val p (n + i))) else none := by
  rw [shiftP, fd_vals]

theorem shiftP_some {p q : List Int} {n : Int} (h : shiftP p n = some q) : validP p = true ∧ validP q = true ∧ (-200 ≤ n ∧ n ≤ 200) ∧ q = (tab p.length fun k => val (p.drop k) n) ∧ q.length = p.length ∧ ∀ m, val q m = val p (m + n) := by
  have h0 := h
  unfold shiftP at h
  split at h
  · rename_i hc
    simp only [Bool.and_eq_true] at hc
    obtain ⟨e, hq⟩ := chk_some h
    refine ⟨hc.1, hq, inB_iff.1 hc.2, e, by rw [e, tab_length], fun m => ?_⟩
    have e2 : q = fd (tab p.length fun i => (fun m => val p (m + n)) (i : Int)) := by
      rw [e, ← fd_vals]
      congr 1
      exact tab_congr fun i _ => by simp only; rw [Int.add_comm]
    rw [e2]
    exact val_fd_tab ((flat_val p).shift n) m
  · cases h

theorem shift_evl {p q : List Int} {n : Int} (h : shiftP p n = some q) {m : Int} (h1 : -5 ≤ m) (h2 : m ≤ 10) (_h3 : inB (m + n) 200 = true) : val p (m + n) = evl q m := by
  obtain ⟨hp, hq, hn, _, _, hv⟩ := shiftP_some h
  rw [evl_in hq (by omega) (by omega), hv]

theorem shift_back {p q : List Int} {n : Int} (h : shiftP p n = some q) : shiftP q (-n) = some p := by
  obtain ⟨hp, hq, hn, _, hl, hv⟩ := shiftP_some h
  have e : (tab q.length fun k => val (q.drop k) (-n)) = p := by
    rw [← fd_vals, hl]
    exact fd_unique rfl (f := fun i => val q (-n + i)) fun i => by rw [hv, show -n + i + n = i by omega]
  rw [shiftP, hq, inB_iff.2 ⟨by omega, by omega⟩]
  simp only [Bool.and_self, if_true]
  rw [e]; exact chk_of hp

theorem shift_last {p q : List Int} {n : Int} (h : shiftP p n = some q) {x y : Int} (hx : q[p.length - 1]? = some x) (hy : p[p.length - 1]? = some y) : x = y := by
  obtain ⟨hp, hq, hn, e, hl, hv⟩ := shiftP_some h
  have h1 := (validP_iff.1 hp).1
  rw [e, tab_at _ (by omega)] at hx
  injection hx with hx
  obtain ⟨hy1, hy2⟩ := List.getElem?_eq_some_iff.1 hy
  rw [← hx, List.drop_eq_getElem_cons hy1, hy2, show p.length - 1 + 1 = p.length by omega, List.drop_length]
  simp [val, valF, chs]

theorem shift_next {p q r : List Int} {n : Int} (h : shiftP p n = some q) (k : shiftP p (n + 1) = some r) {i : Nat} {x y : Int} (hx : r[i]? = some x) (hy : q[i]? = some y) :
    x = y + (q[i + 1]?).getD 0 := by
  obtain ⟨hp, hq, hn, e, hl, hv⟩ := shiftP_some h
  obtain ⟨_, hr, _, e', hl', _⟩ := shiftP_some k
  have hi : i < p.length := by have := (List.getElem?_eq_some_iff.1 hy).1; omega
  rw [e', tab_at _ hi] at hx
  have hy' := hy
  rw [e, tab_at _ hi] at hy'
  injection hx with hx
  injection hy' with hy'
  have hs := val_step (p.drop i) n
  rw [List.drop_drop] at hs
  have hq1 : (q[i + 1]?).getD 0 = val (p.drop (i + 1)) n := by
    by_cases h1 : i + 1 < p.length
    · rw [e, tab_at _ h1]; rfl
    · rw [List.getElem?_eq_none (by omega), List.drop_eq_nil_of_le (by omega)]; rfl
  rw [hq1]
  omega

end Go.Proofs.Ytinhcdppdnmlgaa

/- Plain mathematics of columns: strings of decimal digits. No program in sight. -/
namespace Go.Proofs.Ytinhcdppdnmlgaa

def isDig (b : UInt8) : Bool := decide (48 ≤ b.toNat) && decide (b.toNat ≤ 57)

/-- A column: 1 to 12 digits. -/
def colV (c : ByteArray) : Bool := (decide (1 ≤ c.size) && decide (c.size ≤ 12)) && c.data.toList.all isDig

/-- The number that digits show. -/
def dval (l : List UInt8) : Int := l.foldl (fun n b => 10 * n + ((b.toNat : Int) - 48)) 0
def cval (c : ByteArray) : Int := dval c.data.toList

theorem dval_snoc (l : List UInt8) (b : UInt8) : dval (l ++ [b]) = 10 * dval l + ((b.toNat : Int) - 48) := by simp [dval, List.foldl_append]

theorem snoc_ind {α : Type} {P : List α → Prop} (h0 : P []) (hs : ∀ l b, P l → P (l ++ [b])) (l : List α) : P l := by
  have h : ∀ l : List α, P l.reverse := fun l => by
    induction l with
    | nil => exact h0
    | cons a l ih => rw [List.reverse_cons]; exact hs _ _ ih
  have := h l.reverse
  rwa [List.reverse_reverse] at this

/-- The W lowest digits of v. -/
def dig : Nat → Nat → List UInt8
  | 0, _ => []
  | W + 1, v => dig W (v / 10) ++ [UInt8.ofNat (48 + v % 10)]

theorem dig_length : ∀ W v, (dig W v).length = W
  | 0, _ => rfl
  | W + 1, v => by simp [dig, dig_length W]

theorem digit_toNat (v : Nat) : (UInt8.ofNat (48 + v % 10)).toNat = 48 + v % 10 := by
  rw [UInt8.toNat_ofNat']
  omega

theorem dig_isDig : ∀ W v, (dig W v).all isDig = true
  | 0, _ => rfl
  | W + 1, v => by
    simp only [dig, List.all_append, dig_isDig W, List.all_cons, List.all_nil, isDig, digit_toNat]
    simp
    omega

theorem dval_dig : ∀ W v, v < 10 ^ W → dval (dig W v) = (v : Int)
  | 0, v, h => by simp at h; subst h; rfl
  | W + 1, v, h => by
    rw [Nat.pow_succ] at h
    rw [dig, dval_snoc, dval_dig W (v / 10) (by omega), digit_toNat]
    omega

theorem dval_nonneg (l : List UInt8) : l.all isDig = true → 0 ≤ dval l ∧ dval l < ((10 ^ l.length : Nat) : Int) := by
  refine snoc_ind (P := fun l => l.all isDig = true → 0 ≤ dval l ∧ dval l < ((10 ^ l.length : Nat) : Int)) ?_ ?_ l
  · intro _; simp [dval]
  · intro l b ih h
    rw [List.all_append, Bool.and_eq_true] at h
    have h1 := ih h.1
    have h2 := h.2
    simp only [List.all_cons, List.all_nil, Bool.and_true, isDig, Bool.and_eq_true, decide_eq_true_eq] at h2
    rw [dval_snoc, List.length_append, List.length_singleton, Nat.pow_succ]
    push_cast at h1 ⊢
    omega

theorem dig_dval (l : List UInt8) : l.all isDig = true → dig l.length (dval l).toNat = l := by
  refine snoc_ind (P := fun l => l.all isDig = true → dig l.length (dval l).toNat = l) ?_ ?_ l
  · intro _; rfl
  · intro l b ih h
    rw [List.all_append, Bool.and_eq_true] at h
    have h1 := dval_nonneg l h.1
    have h2 := h.2
    simp only [List.all_cons, List.all_nil, Bool.and_true, isDig, Bool.and_eq_true, decide_eq_true_eq] at h2
    have e : (dval (l ++ [b])).toNat = 10 * (dval l).toNat + (b.toNat - 48) := by rw [dval_snoc]; omega
    rw [e, List.length_append, List.length_singleton, dig]
    rw [show (10 * (dval l).toNat + (b.toNat - 48)) / 10 = (dval l).toNat by omega, ih h.1]
    congr 1
    rw [show 48 + (10 * (dval l).toNat + (b.toNat - 48)) % 10 = b.toNat by omega]
    simp

/-- 10 to the power of W. -/
def ten (W : Nat) : Int := ((10 ^ W : Nat) : Int)
theorem ten_pos (W : Nat) : 0 < ten W := by
  have : 0 < 10 ^ W := Nat.pow_pos (by decide)
  unfold ten; omega
theorem ten_succ (W : Nat) : ten (W + 1) = ten W * 10 := by unfold ten; rw [Nat.pow_succ]; push_cast; rfl
theorem ten_zero : ten 0 = 1 := rfl
theorem ten_bd (W : Nat) (h : W ≤ 12) : 1 ≤ ten W ∧ ten W ≤ 1000000000000 := by
  match W, h with
  | 0, _ | 1, _ | 2, _ | 3, _ | 4, _ | 5, _ | 6, _ | 7, _ | 8, _ | 9, _ | 10, _ | 11, _ | 12, _ => decide
  | W + 13, h => omega
theorem ten_even (W : Nat) (h : 1 ≤ W) : ten W / 2 * 2 = ten W ∧ 5 ≤ ten W / 2 := by
  obtain ⟨k, rfl⟩ : ∃ k, W = k + 1 := ⟨W - 1, by omega⟩
  have := ten_pos k
  rw [ten_succ]
  omega

/-- The column of width W that shows x modulo its size. -/
def showC (W : Nat) (x : Int) : ByteArray := ⟨(dig W (x % ten W).toNat).toArray⟩

theorem showC_list (W : Nat) (x : Int) : (showC W x).data.toList = dig W (x % ten W).toNat := by simp [showC]
theorem showC_size (W : Nat) (x : Int) : (showC W x).size = W := by
  show (showC W x).data.size = W
  simp [showC, dig_length]
theorem mod_bd (W : Nat) (x : Int) : 0 ≤ x % ten W ∧ x % ten W < ten W := ⟨Int.emod_nonneg _ (by have := ten_pos W; omega), Int.emod_lt_of_pos _ (ten_pos W)⟩
theorem cval_showC (W : Nat) (x : Int) : cval (showC W x) = x % ten W := by
  have h := mod_bd W x
  rw [cval, showC_list, dval_dig W _ (by unfold ten at h ⊢; omega)]
  omega
theorem colV_showC {W : Nat} (x : Int) (h1 : 1 ≤ W) (h2 : W ≤ 12) : colV (showC W x) = true := by
  rw [colV, showC_size, showC_list, dig_isDig]
  simp [h1, h2]

theorem colV_iff {c : ByteArray} : colV c = true ↔ (1 ≤ c.size ∧ c.size ≤ 12) ∧ c.data.toList.all isDig = true := by
  simp only [colV, Bool.and_eq_true, decide_eq_true_eq]

theorem colV_show {c : ByteArray} (h : colV c = true) : c = showC c.size (cval c) ∧ 0 ≤ cval c ∧ cval c < ten c.size := by
  have hd := (colV_iff.1 h).2
  have hl : c.data.toList.length = c.size := Array.length_toList
  have hv := dval_nonneg _ hd
  rw [hl] at hv
  have hm : cval c % ten c.size = cval c := Int.emod_eq_of_lt hv.1 hv.2
  refine ⟨?_, hv.1, hv.2⟩
  rw [showC, hm]
  have := dig_dval _ hd
  rw [hl] at this
  unfold cval
  rw [this]

theorem showC_congr {W : Nat} {x y : Int} (h : x % ten W = y % ten W) : showC W x = showC W y := by rw [showC, showC, h]
theorem showC_mod (W : Nat) (x : Int) : showC W (x % ten W) = showC W x := showC_congr (Int.emod_emod_of_dvd _ (Int.dvd_refl _))
theorem showC_inj {W : Nat} {x y : Int} (h : showC W x = showC W y) : x % ten W = y % ten W := by rw [← cval_showC, ← cval_showC, h]

/-- What the column of width W that shows x stands for. -/
def sgn (W : Nat) (x : Int) : Int := if x % ten W ≥ ten W / 2 then x % ten W - ten W else x % ten W
def fitsB (n : Int) (W : Nat) : Bool := decide (-(ten W / 2) ≤ n) && decide (n < ten W / 2)

theorem fitsB_iff {n : Int} {W : Nat} : fitsB n W = true ↔ -(ten W / 2) ≤ n ∧ n < ten W / 2 := by simp [fitsB]

theorem sgn_congr {W : Nat} {x y : Int} (h : x % ten W = y % ten W) : sgn W x = sgn W y := by rw [sgn, sgn, h]
theorem sgn_mod (W : Nat) (x : Int) : sgn W x % ten W = x % ten W := by
  unfold sgn
  split
  · rw [Int.sub_emod_right, Int.emod_emod_of_dvd _ (Int.dvd_refl _)]
  · rw [Int.emod_emod_of_dvd _ (Int.dvd_refl _)]
theorem sgn_fits (W : Nat) (x : Int) (h : 1 ≤ W) : fitsB (sgn W x) W = true := by
  have h1 := mod_bd W x
  have h2 := ten_even W h
  rw [fitsB_iff, sgn]
  split <;> omega
theorem sgn_of_fits {W : Nat} {n : Int} (h : 1 ≤ W) (hf : fitsB n W = true) : sgn W n = n := by
  have h2 := ten_even W h
  have h3 := fitsB_iff.1 hf
  rcases Int.lt_or_le n 0 with hn | hn
  · have e : n % ten W = n + ten W := by
      rw [← Int.add_emod_right]
      exact Int.emod_eq_of_lt (by omega) (by omega)
    rw [sgn, e, if_pos (by omega)]
    omega
  · have e : n % ten W = n := Int.emod_eq_of_lt hn (by omega)
    rw [sgn, e, if_neg (by omega)]
theorem sgn_bd {W : Nat} (x : Int) (h1 : 1 ≤ W) (h2 : W ≤ 12) : -500000000000 ≤ sgn W x ∧ sgn W x < 500000000000 := by
  have h := fitsB_iff.1 (sgn_fits W x h1)
  have h3 := ten_bd W h2
  omega
theorem showC_sgn (W : Nat) (x : Int) : showC W (sgn W x) = showC W x := showC_congr (sgn_mod W x)

/-- An engine of width W whose columns show these numbers. -/
def eng (W : Nat) (vs : List Int) : List ByteArray := vs.map (showC W)
theorem eng_length (W : Nat) (vs : List Int) : (eng W vs).length = vs.length := by simp [eng]

def engV (cs : List ByteArray) : Bool := (decide (1 ≤ cs.length) && decide (cs.length ≤ 7)) && cs.all fun c => colV c && decide (c.size = (cs.headD ByteArray.empty).size)

theorem engV_iff {cs : List ByteArray} : engV cs = true ↔ (1 ≤ cs.length ∧ cs.length ≤ 7) ∧ ∀ c ∈ cs, colV c = true ∧ c.size = (cs.headD ByteArray.empty).size := by
  simp [engV]

theorem engV_eng {W : Nat} {vs : List Int} (h1 : 1 ≤ W) (h2 : W ≤ 12) (h3 : 1 ≤ vs.length) (h4 : vs.length ≤ 7) : engV (eng W vs) = true := by
  refine engV_iff.2 ⟨by rw [eng_length]; exact ⟨h3, h4⟩, fun c hc => ?_⟩
  obtain ⟨x, _, rfl⟩ := List.mem_map.1 hc
  refine ⟨colV_showC x h1 h2, ?_⟩
  rw [showC_size]
  cases vs with
  | nil => simp at h3
  | cons v r => simp [eng, showC_size]

theorem engV_some {cs : List ByteArray} (h : engV cs = true) : ∃ W vs, cs = eng W vs ∧ 1 ≤ W ∧ W ≤ 12 ∧ 1 ≤ vs.length ∧ vs.length ≤ 7 ∧ ∀ v ∈ vs, 0 ≤ v ∧ v < ten W := by
  obtain ⟨⟨h1, h7⟩, hc⟩ := engV_iff.1 h
  obtain ⟨W, hW⟩ : ∃ W, W = (cs.headD ByteArray.empty).size := ⟨_, rfl⟩
  rw [← hW] at hc
  have hmem : cs.headD ByteArray.empty ∈ cs := by
    cases cs with
    | nil => simp at h1
    | cons c r => simp
  have hW1 := (colV_iff.1 (hc _ hmem).1).1
  rw [← hW] at hW1
  refine ⟨W, cs.map cval, ?_, hW1.1, hW1.2, by simpa using h1, by simpa using h7, ?_⟩
  · rw [eng, List.map_map]
    have : cs.map (showC W ∘ cval) = cs.map id := List.map_congr_left fun c hcm => by
      have h1 := (colV_show (hc c hcm).1).1
      rw [(hc c hcm).2] at h1
      exact h1.symm
    rw [this, List.map_id]
  · intro v hv
    obtain ⟨c, hcm, rfl⟩ := List.mem_map.1 hv
    have := colV_show (hc c hcm).1
    rw [(hc c hcm).2] at this
    exact this.2

theorem eng_at {W : Nat} {vs : List Int} {k : Nat} {x : Int} (h : vs[k]? = some x) : (eng W vs)[k]? = some (showC W x) := by simp [eng, h]

end Go.Proofs.Ytinhcdppdnmlgaa

/- Plain mathematics of engines: what turns, halves and set-ups askew do to the numbers that the columns show. -/
namespace Go.Proofs.Ytinhcdppdnmlgaa

theorem val_cons (x : Int) (r : List Int) (n : Int) : val (x :: r) n = x + valF 1 r n := by simp [val, valF, chs]
theorem valF1_zero (r : List Int) : valF 1 r 0 = 0 := valF_zero r 0
theorem valF1_step (r : List Int) (n : Int) : valF 1 r (n + 1) = valF 1 r n + val r n := by
  have h := valF_step r 0 n
  simpa [val] using h

theorem val_head (p : List Int) : val p 0 = p.getD 0 0 := by
  cases p with
  | nil => rfl
  | cons d r => rw [val_zero]; rfl

theorem drop_head (p : List Int) (i : Nat) : (p.drop i).getD 0 0 = p.getD i 0 := by
  rw [List.getD_eq_getElem?_getD, List.getElem?_drop, List.getD_eq_getElem?_getD, Nat.add_zero]

theorem val_drop_zero (p : List Int) (i : Nat) : val (p.drop i) 0 = p.getD i 0 := by rw [val_head, drop_head]

theorem val_drop_step (p : List Int) (i : Nat) (n : Int) : val (p.drop i) (n + 1) = val (p.drop i) n + val (p.drop (i + 1)) n := by
  have := val_step (p.drop i) n
  rwa [List.drop_drop] at this

/-- The numbers after n turns. -/
def manyV (vs : List Int) (n : Int) : List Int := tab vs.length fun i => val (vs.drop i) n

theorem manyV_eq (vs : List Int) (n : Int) : manyV vs n = tab vs.length fun i => val (vs.drop i) n := rfl
theorem manyV_length (vs : List Int) (n : Int) : (manyV vs n).length = vs.length := tab_length _ _
theorem manyV_zero (vs : List Int) : manyV vs 0 = vs := by
  rw [manyV, tab_congr (g := fun i => vs.getD i 0) fun i _ => val_drop_zero vs i, tab_drop_eq]

theorem val_manyV (vs : List Int) (n m : Int) : val (manyV vs n) m = val vs (m + n) := by
  rw [manyV, ← fd_vals]
  have e : (tab vs.length fun i => val vs (n + i)) = tab vs.length fun i => (fun m => val vs (m + n)) (i : Int) := tab_congr fun i _ => by simp only; rw [Int.add_comm]
  rw [e]
  exact val_fd_tab ((flat_val vs).shift n) m

theorem tab_drop (n i : Nat) (f : Nat → Int) : (tab n f).drop i = tab (n - i) fun k => f (i + k) := by
  refine List.ext_getElem? fun k => ?_
  rw [List.getElem?_drop]
  by_cases hk : i + k < n
  · rw [tab_at _ hk, tab_at _ (by omega)]
  · rw [List.getElem?_eq_none (by rw [tab_length]; omega), List.getElem?_eq_none (by rw [tab_length]; omega)]

theorem manyV_drop (vs : List Int) (n : Int) (i : Nat) : (manyV vs n).drop i = manyV (vs.drop i) n := by
  rw [manyV, tab_drop, manyV, List.length_drop]
  exact tab_congr fun k _ => by rw [List.drop_drop]

theorem manyV_manyV (vs : List Int) (a b : Int) : manyV (manyV vs a) b = manyV vs (b + a) := by
  rw [manyV_eq (manyV vs a) b, manyV_length, manyV_eq vs (b + a)]
  exact tab_congr fun i _ => by rw [manyV_drop, val_manyV]

theorem manyV_at {vs : List Int} (n : Int) {i : Nat} (h : i < vs.length) : (manyV vs n)[i]? = some (val (vs.drop i) n) := tab_at _ h

/-- One turn: each number, and the next one. -/
theorem manyV_one_at {vs : List Int} {i : Nat} {x y : Int} (hx : vs[i]? = some x) (hy : vs[i + 1]? = some y) : (manyV vs 1)[i]? = some (x + y) := by
  have hi := (List.getElem?_eq_some_iff.1 hx).1
  rw [manyV_at 1 hi, show (1 : Int) = 0 + 1 from rfl, val_drop_step, val_drop_zero, val_drop_zero, List.getD_eq_getElem?_getD, List.getD_eq_getElem?_getD, hx, hy]
  rfl
theorem manyV_last {vs : List Int} {i : Nat} (n : Int) (hi : i + 1 = vs.length) : (manyV vs n)[i]? = vs[i]? := by
  rw [manyV_at n (by omega), List.getElem?_eq_getElem (by omega), List.drop_eq_getElem_cons (by omega), hi, List.drop_length]
  simp [val, valF, chs]
/-- One turn back: each number, less the next one after the turn back. -/
theorem manyV_back_at {vs : List Int} {i : Nat} {x y : Int} (hx : vs[i]? = some x) (hy : (manyV vs (-1))[i + 1]? = some y) : (manyV vs (-1))[i]? = some (x - y) := by
  have hi := (List.getElem?_eq_some_iff.1 hx).1
  have hi2 : i + 1 < vs.length := by
    have := (List.getElem?_eq_some_iff.1 hy).1
    rwa [manyV_length] at this
  rw [manyV_at _ hi2] at hy
  injection hy with hy
  have h := val_drop_step vs i (-1)
  rw [show (-1 : Int) + 1 = 0 from rfl, val_drop_zero, List.getD_eq_getElem?_getD, hx] at h
  rw [manyV_at _ hi, ← hy]
  congr 1
  simp only [Option.getD_some] at h
  omega

/-- Half a turn: the columns with an index of the parity f. -/
def halfV (f : Nat) (vs : List Int) : List Int := tab vs.length fun i => if i % 2 = f then vs.getD i 0 + vs.getD (i + 1) 0 else vs.getD i 0
theorem halfV_length (f : Nat) (vs : List Int) : (halfV f vs).length = vs.length := tab_length _ _
theorem halfV_at {f : Nat} {vs : List Int} {i : Nat} (h : i < vs.length) : (halfV f vs)[i]? = some (if i % 2 = f then vs.getD i 0 + vs.getD (i + 1) 0 else vs.getD i 0) := tab_at _ h

theorem getD_at {vs : List Int} {i : Nat} {x : Int} (h : vs[i]? = some x) : vs.getD i 0 = x := by rw [List.getD_eq_getElem?_getD, h]; rfl
theorem getD_none {vs : List Int} {i : Nat} (h : vs.length ≤ i) : vs.getD i 0 = 0 := by rw [List.getD_eq_getElem?_getD, List.getElem?_eq_none h]; rfl

/-- Set up askew: the column with the index i is that of i / 2 turns before. -/
def skewV (vs : List Int) : List Int := tab vs.length fun i => val (vs.drop i) (-((i / 2 : Nat) : Int))
theorem skewV_length (vs : List Int) : (skewV vs).length = vs.length := tab_length _ _
theorem skewV_at {vs : List Int} {i : Nat} (h : i < vs.length) : (skewV vs)[i]? = some (val (vs.drop i) (-((i / 2 : Nat) : Int))) := tab_at _ h
theorem skewV_getD (vs : List Int) (i : Nat) : (skewV vs).getD i 0 = val (vs.drop i) (-((i / 2 : Nat) : Int)) := by
  by_cases h : i < vs.length
  · exact getD_at (skewV_at h)
  · rw [getD_none (by rw [skewV_length]; omega), List.drop_eq_nil_of_le (by omega)]; rfl

/-- The other way. The list begins with the index i. -/
def unskG : Nat → List Int → List Int
  | _, [] => []
  | i, c :: r => (c - valF 1 (unskG (i + 1) r) (-((i / 2 : Nat) : Int))) :: unskG (i + 1) r
def unskV (vs : List Int) : List Int := unskG 0 vs

theorem unskG_length : ∀ (i : Nat) (vs : List Int), (unskG i vs).length = vs.length
  | _, [] => rfl
  | i, c :: r => by simp [unskG, unskG_length (i + 1) r]
theorem unskV_length (vs : List Int) : (unskV vs).length = vs.length := unskG_length 0 vs

theorem unskG_drop : ∀ (j i : Nat) (vs : List Int), (unskG i vs).drop j = unskG (i + j) (vs.drop j)
  | 0, i, vs => rfl
  | j + 1, i, [] => by simp [unskG]
  | j + 1, i, c :: r => by
    rw [unskG, List.drop_succ_cons, List.drop_succ_cons, unskG_drop j (i + 1) r, show i + 1 + j = i + (j + 1) by omega]

theorem skew_unsk (vs : List Int) : skewV (unskV vs) = vs := by
  refine List.ext_getElem? fun k => ?_
  by_cases hk : k < vs.length
  · rw [skewV_at (by rw [unskV_length]; exact hk), unskV, unskG_drop, Nat.zero_add, List.drop_eq_getElem_cons hk, unskG, val_cons, List.getElem?_eq_getElem hk]
    congr 1
    omega
  · rw [List.getElem?_eq_none (by rw [skewV_length, unskV_length]; omega), List.getElem?_eq_none (by omega)]

theorem unskG_skew : ∀ (i : Nat) (vs : List Int), unskG i (tab vs.length fun j => val (vs.drop j) (-(((i + j) / 2 : Nat) : Int))) = vs
  | _, [] => rfl
  | i, c :: r => by
    have ih := unskG_skew (i + 1) r
    rw [List.length_cons, tab_succ, unskG]
    have e : (tab r.length fun j => val ((c :: r).drop (j + 1)) (-(((i + (j + 1)) / 2 : Nat) : Int))) = tab r.length fun j => val (r.drop j) (-(((i + 1 + j) / 2 : Nat) : Int)) :=
      tab_congr fun j _ => by rw [List.drop_succ_cons, show i + (j + 1) = i + 1 + j by omega]
    rw [e, ih, List.drop_zero, val_cons]
    congr 1
    simp
theorem unsk_skew (vs : List Int) : unskV (skewV vs) = vs := by
  have := unskG_skew 0 vs
  rwa [show (fun j => val (vs.drop j) (-(((0 + j) / 2 : Nat) : Int))) = fun j => val (vs.drop j) (-((j / 2 : Nat) : Int)) from funext fun j => by rw [Nat.zero_add]] at this

/-- The program's way: turned back as often, and forth again with the column c. -/
theorem forth_again (c : Int) (H : List Int) (m : Nat) : val (c :: manyV H (-(m : Int))) m = c - valF 1 H (-(m : Int)) := by
  have h : ∀ k : Nat, valF 1 (manyV H (-(m : Int))) k = valF 1 H (k + -(m : Int)) - valF 1 H (-(m : Int)) := by
    intro k
    induction k with
    | zero => rw [show ((0 : Nat) : Int) = 0 from rfl, valF1_zero, Int.zero_add]; omega
    | succ k ih =>
      rw [show ((k + 1 : Nat) : Int) = (k : Int) + 1 by omega, valF1_step, ih, val_manyV, show (k : Int) + 1 + -(m : Int) = (k : Int) + -(m : Int) + 1 by omega, valF1_step]
      omega
  rw [val_cons, h m, show (m : Int) + -(m : Int) = 0 by omega, valF1_zero]
  omega

/-- The reference's way: the next column's numbers some turns before, added one after the other. -/
def sumB (H : List Int) : Nat → Int
  | 0 => 0
  | s + 1 => sumB H s + val H (-((s + 1 : Nat) : Int))
theorem sumB_eq (H : List Int) : ∀ m : Nat, sumB H m = -valF 1 H (-(m : Int))
  | 0 => by rw [show (-((0 : Nat) : Int)) = 0 from rfl, valF1_zero]; rfl
  | m + 1 => by
    have h := valF1_step H (-((m + 1 : Nat) : Int))
    rw [show -((m + 1 : Nat) : Int) + 1 = -(m : Int) by omega] at h
    rw [sumB, sumB_eq H m]
    omega

/-- A turn in two halves, askew. -/
theorem halves_skew (vs : List Int) : halfV 1 (halfV 0 (skewV vs)) = skewV (manyV vs 1) := by
  have h0 : ∀ i, (halfV 0 (skewV vs)).getD i 0 = if i % 2 = 0 then val (vs.drop i) (-((i / 2 : Nat) : Int) + 1) else val (vs.drop i) (-((i / 2 : Nat) : Int)) := by
    intro i
    by_cases hi : i < vs.length
    · rw [getD_at (halfV_at (by rw [skewV_length]; exact hi)), skewV_getD, skewV_getD]
      split
      · rename_i he
        rw [val_drop_step, show (i + 1) / 2 = i / 2 by omega]
      · rfl
    · rw [getD_none (by rw [halfV_length, skewV_length]; omega), List.drop_eq_nil_of_le (by omega)]
      split <;> rfl
  refine List.ext_getElem? fun i => ?_
  by_cases hi : i < vs.length
  · rw [halfV_at (by rw [halfV_length, skewV_length]; exact hi), skewV_at (by rw [manyV_length]; exact hi), manyV_drop, val_manyV, h0 i, h0 (i + 1)]
    congr 1
    by_cases he : i % 2 = 0
    · rw [if_neg (by omega), if_pos he]
    · rw [if_pos (by omega), if_neg he, if_pos (by omega), show -((((i + 1) / 2 : Nat)) : Int) + 1 = -((i / 2 : Nat) : Int) by omega]
      exact (val_drop_step vs i _).symm
  · rw [List.getElem?_eq_none (by rw [halfV_length, halfV_length, skewV_length]; omega), List.getElem?_eq_none (by rw [skewV_length, manyV_length]; omega)]

/-! Sums of engines. -/
def plusV (a b : List Int) : List Int := tab a.length fun i => a.getD i 0 + b.getD i 0
theorem plusV_length (a b : List Int) : (plusV a b).length = a.length := tab_length _ _
theorem plusV_at {a b : List Int} {i : Nat} {x y : Int} (hx : a[i]? = some x) (hy : b[i]? = some y) : (plusV a b)[i]? = some (x + y) := by
  rw [plusV, tab_at _ (List.getElem?_eq_some_iff.1 hx).1, getD_at hx, getD_at hy]
theorem plusV_comm {a b : List Int} (h : a.length = b.length) : plusV a b = plusV b a := by
  rw [plusV, plusV, h]
  exact tab_congr fun i _ => Int.add_comm _ _

theorem valF_plus (n : Int) : ∀ (a b : List Int) (j : Nat), a.length = b.length → valF j (plusV a b) n = valF j a n + valF j b n
  | [], [], _, _ => rfl
  | x :: a, y :: b, j, h => by
    have ih := valF_plus n a b (j + 1) (by simpa using h)
    have e : plusV (x :: a) (y :: b) = (x + y) :: plusV a b := by
      rw [plusV, List.length_cons, tab_succ]
      rfl
    rw [e]
    simp only [valF, ih]
    grind
theorem val_plus {a b : List Int} (h : a.length = b.length) (n : Int) : val (plusV a b) n = val a n + val b n := valF_plus n a b 0 h
theorem plusV_drop (a b : List Int) (i : Nat) : (plusV a b).drop i = plusV (a.drop i) (b.drop i) := by
  rw [plusV, tab_drop, plusV, List.length_drop]
  exact tab_congr fun k _ => by
    rw [List.getD_eq_getElem?_getD, List.getD_eq_getElem?_getD, List.getD_eq_getElem?_getD, List.getD_eq_getElem?_getD, List.getElem?_drop, List.getElem?_drop]
theorem many_plus {a b : List Int} (h : a.length = b.length) (n : Int) : manyV (plusV a b) n = plusV (manyV a n) (manyV b n) := by
  rw [manyV_eq (plusV a b) n, plusV_length, show plusV (manyV a n) (manyV b n) = tab (manyV a n).length fun i => (manyV a n).getD i 0 + (manyV b n).getD i 0 from rfl, manyV_length]
  exact tab_congr fun i hi => by
    rw [plusV_drop, val_plus (by rw [List.length_drop, List.length_drop, h]), getD_at (manyV_at n hi), getD_at (manyV_at n (by omega))]
theorem skew_plus {a b : List Int} (h : a.length = b.length) : skewV (plusV a b) = plusV (skewV a) (skewV b) := by
  rw [show skewV (plusV a b) = tab (plusV a b).length fun i => val ((plusV a b).drop i) (-((i / 2 : Nat) : Int)) from rfl, plusV_length, show plusV (skewV a) (skewV b) = tab (skewV a).length fun i => (skewV a).getD i 0 + (skewV b).getD i 0 from rfl, skewV_length]
  exact tab_congr fun i hi => by
    rw [plusV_drop, val_plus (by rw [List.length_drop, List.length_drop, h]), getD_at (skewV_at hi), getD_at (skewV_at (by omega))]

/-! Numbers that are the same modulo the columns' size. -/
def Same (W : Nat) (a b : List Int) : Prop := a.length = b.length ∧ ∀ i, a.getD i 0 % ten W = b.getD i 0 % ten W

theorem eng_congr {W : Nat} {a b : List Int} (h : Same W a b) : eng W a = eng W b := by
  refine List.ext_getElem? fun k => ?_
  by_cases hk : k < a.length
  · have hk' : k < b.length := by rw [← h.1]; exact hk
    have hk2 := h.2 k
    rw [getD_at (List.getElem?_eq_getElem hk), getD_at (List.getElem?_eq_getElem hk')] at hk2
    rw [eng_at (List.getElem?_eq_getElem hk), eng_at (List.getElem?_eq_getElem hk'), showC_congr hk2]
  · rw [List.getElem?_eq_none (by rw [eng_length]; omega), List.getElem?_eq_none (by rw [eng_length, ← h.1]; omega)]

theorem add_mod2 {M a b c d : Int} (h : a % M = b % M) (k : c % M = d % M) : (a + c) % M = (b + d) % M := by
  rw [Int.add_emod, h, k, ← Int.add_emod]
theorem mul_mod2 {M a b : Int} (c : Int) (h : a % M = b % M) : (a * c) % M = (b * c) % M := by
  rw [Int.mul_emod, h, ← Int.mul_emod]

theorem valF_same {W : Nat} (n : Int) : ∀ (a b : List Int) (j : Nat), Same W a b → valF j a n % ten W = valF j b n % ten W
  | [], [], _, _ => rfl
  | [], y :: b, _, h => by have := h.1; simp at this
  | x :: a, [], _, h => by have := h.1; simp at this
  | x :: a, y :: b, j, h => by
    have h0 := h.2 0
    simp only [List.getD_cons_zero] at h0
    have ih := valF_same n a b (j + 1) ⟨by simpa using h.1, fun i => by have := h.2 (i + 1); simpa using this⟩
    simp only [valF]
    exact add_mod2 (mul_mod2 _ h0) ih
theorem Same.drop {W : Nat} {a b : List Int} (h : Same W a b) (i : Nat) : Same W (a.drop i) (b.drop i) :=
  ⟨by rw [List.length_drop, List.length_drop, h.1], fun k => by
    have := h.2 (i + k)
    rwa [List.getD_eq_getElem?_getD, List.getD_eq_getElem?_getD, ← List.getElem?_drop, ← List.getElem?_drop, ← List.getD_eq_getElem?_getD, ← List.getD_eq_getElem?_getD] at this⟩
theorem Same.val {W : Nat} {a b : List Int} (h : Same W a b) (n : Int) : val a n % ten W = val b n % ten W := valF_same n a b 0 h
theorem Same.sgn {W : Nat} (a : List Int) : Same W (a.map (sgn W)) a :=
  ⟨by simp, fun i => by
    rw [List.getD_eq_getElem?_getD, List.getElem?_map, List.getD_eq_getElem?_getD]
    cases a[i]? with
    | none => rfl
    | some x => exact sgn_mod W x⟩
theorem eng_sgn (W : Nat) (a : List Int) : eng W (a.map (Go.Proofs.Ytinhcdppdnmlgaa.sgn W)) = eng W a := eng_congr (Same.sgn a)

end Go.Proofs.Ytinhcdppdnmlgaa

/- Plain mathematics of columns: widths, set-ups, capacities, sums with binomial coefficients. -/
namespace Go.Proofs.Ytinhcdppdnmlgaa

theorem ten_mono {a b : Nat} (h : a ≤ b) : ten a ≤ ten b := by
  induction b with
  | zero => have : a = 0 := by omega
            subst this; exact Int.le_refl _
  | succ b ih =>
    by_cases hb : a = b + 1
    · subst hb; exact Int.le_refl _
    · have := ih (by omega)
      have := ten_pos b
      rw [ten_succ]; omega

theorem fits_mono {n : Int} {a b : Nat} (h : a ≤ b) (hf : fitsB n a = true) : fitsB n b = true := by
  rw [fitsB_iff] at hf ⊢
  have := ten_mono h
  omega

/-- The least width from k on, n of them tried, in which a number fits; 0 if there is none. -/
def wforN (v : Int) : Nat → Nat → Nat
  | 0, _ => 0
  | n + 1, k => if fitsB v k then k else wforN v n (k + 1)
def wfor (v : Int) : Nat := wforN v 12 1

theorem wforN_range (v : Int) : ∀ n k, wforN v n k = 0 ∨ (k ≤ wforN v n k ∧ wforN v n k < k + n)
  | 0, _ => .inl rfl
  | n + 1, k => by
    rw [wforN]
    split
    · right; omega
    · rcases wforN_range v n (k + 1) with h | h
      · exact .inl h
      · right; omega

theorem wforN_fits (v : Int) : ∀ n k, wforN v n k ≠ 0 → fitsB v (wforN v n k) = true
  | 0, _, h => absurd rfl h
  | n + 1, k, h => by
    rw [wforN] at h ⊢
    split
    · assumption
    · rename_i hc
      rw [if_neg hc] at h
      exact wforN_fits v n (k + 1) h

theorem wforN_le {v : Int} {W : Nat} (hf : fitsB v W = true) : ∀ n k, 0 < k → k ≤ W → W < k + n → wforN v n k ≠ 0 ∧ wforN v n k ≤ W
  | 0, k, _, h1, h2 => absurd h1 (by omega)
  | n + 1, k, h0, h1, h2 => by
    rw [wforN]
    split
    · omega
    · rename_i hc
      by_cases hk : k = W
      · subst hk; exact absurd hf hc
      · exact wforN_le hf n (k + 1) (by omega) (by omega) (by omega)

theorem wfor_le (v : Int) : wfor v ≤ 12 := by
  rcases wforN_range v 12 1 with h | h
  · unfold wfor; omega
  · unfold wfor; omega

theorem wfor_iff {v : Int} {W : Nat} (h1 : 1 ≤ W) (h2 : W ≤ 12) : (wfor v ≠ 0 ∧ wfor v ≤ W) ↔ fitsB v W = true := by
  constructor
  · rintro ⟨h3, h4⟩
    exact fits_mono h4 (wforN_fits v 12 1 h3)
  · intro hf
    exact wforN_le hf 12 1 (by omega) h1 (by omega)

/-- An engine shows a number exactly if it has a column of its width. -/
theorem sgn_eq_iff {W : Nat} {v : Int} (h1 : 1 ≤ W) : sgn W v = v ↔ fitsB v W = true := by
  constructor
  · intro h; rw [← h]; exact sgn_fits W v h1
  · exact sgn_of_fits h1

/-- All numbers of a list fit. -/
def fitsAll (vs : List Int) (W : Nat) : Bool := vs.all fun v => fitsB v W
theorem fitsAll_iff {vs : List Int} {W : Nat} : fitsAll vs W = true ↔ ∀ v ∈ vs, fitsB v W = true := by simp [fitsAll]

/-- The engine of a width that holds these numbers, if each has a column. -/
def setE (vs : List Int) (W : Int) : Option (List ByteArray) := if (decide (1 ≤ W) && decide (W ≤ 12)) && fitsAll vs W.toNat then some (eng W.toNat vs) else none

def capN (vs : List Int) (W : Nat) : Nat := (vs.takeWhile fun v => fitsB v W).length
theorem capN_le (vs : List Int) (W : Nat) : capN vs W ≤ vs.length := (List.takeWhile_sublist _).length_le

theorem capN_fits : ∀ (vs : List Int) (W i : Nat) (x : Int), i < capN vs W → vs[i]? = some x → fitsB x W = true
  | [], W, i, x, h, hx => by simp at hx
  | v :: r, W, i, x, h, hx => by
    unfold capN at h
    rw [List.takeWhile_cons] at h
    by_cases hf : fitsB v W = true
    · rw [if_pos hf] at h
      cases i with
      | zero => simp at hx; rw [← hx]; exact hf
      | succ i => exact capN_fits r W i x (by unfold capN; simpa using h) (by simpa using hx)
    · rw [if_neg hf] at h; simp at h

theorem capN_stop : ∀ (vs : List Int) (W : Nat) (x : Int), vs[capN vs W]? = some x → fitsB x W = false
  | [], W, x, hx => by simp [capN] at hx
  | v :: r, W, x, hx => by
    unfold capN at hx
    rw [List.takeWhile_cons] at hx
    by_cases hf : fitsB v W = true
    · rw [if_pos hf] at hx
      exact capN_stop r W x (by unfold capN; simpa using hx)
    · rw [if_neg hf] at hx
      simp at hx
      rw [← hx]; simpa using hf

/-- The first column that a scan comes to. -/
theorem capN_at {vs : List Int} {W k : Nat} (hk : ∀ i x, i < k → vs[i]? = some x → fitsB x W = true) (hx : (∃ x, vs[k]? = some x ∧ fitsB x W = false) ∨ k = vs.length) : capN vs W = k := by
  have hle := capN_le vs W
  rcases Nat.lt_trichotomy (capN vs W) k with h | h | h
  · exfalso
    have hlt : capN vs W < vs.length := by
      rcases hx with ⟨x, hx, _⟩ | hx
      · have := (List.getElem?_eq_some_iff.1 hx).1; omega
      · omega
    have h1 := hk _ _ h (List.getElem?_eq_getElem hlt)
    have h2 := capN_stop vs W _ (List.getElem?_eq_getElem hlt)
    rw [h1] at h2; cases h2
  · exact h
  · exfalso
    rcases hx with ⟨x, hx, hf⟩ | hx
    · have := capN_fits vs W k x h hx
      rw [hf] at this; cases this
    · omega

/-! The column after n turns as a sum: the loops of the law. -/

/-- The sum of the first m terms. -/
def tsum (vs : List Int) (n : Int) : Nat → Int
  | 0 => 0
  | k + 1 => tsum vs n k + vs.getD k 0 * chs n k
theorem tsum_val (vs : List Int) (n : Int) : ∀ m, m ≤ vs.length → tsum vs n m = val (vs.take m) n
  | 0, _ => by simp [tsum, val, valF]
  | m + 1, h => by
    have hx : vs[m]? = some (vs.getD m 0) := by rw [List.getD_eq_getElem?_getD, List.getElem?_eq_getElem (by omega)]; rfl
    rw [tsum, tsum_val vs n m (by omega), val_take vs m _ n hx]
theorem tsum_all (vs : List Int) (n : Int) : tsum vs n vs.length = val vs n := by rw [tsum_val vs n _ (Nat.le_refl _), List.take_length]

/-- Doubling: what the loop adds for a coefficient c > 0 that is the sum's rest. -/
theorem double_odd (s p c : Int) (h : c % 2 = 1) : s + p * c = (s + p) + (p + p) * (c / 2) := by
  have : c = 2 * (c / 2) + 1 := by omega
  have h2 : p * c = p * (2 * (c / 2) + 1) := by rw [← this]
  rw [h2]
  grind
theorem double_even (s p c : Int) (h : c % 2 = 0) : s + p * c = s + (p + p) * (c / 2) := by
  have : c = 2 * (c / 2) := by omega
  have h2 : p * c = p * (2 * (c / 2)) := by rw [← this]
  rw [h2]
  grind

end Go.Proofs.Ytinhcdppdnmlgaa
