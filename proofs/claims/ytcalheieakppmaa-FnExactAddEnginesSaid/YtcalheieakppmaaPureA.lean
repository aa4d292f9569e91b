/- Plain mathematics of binomial coefficients, values of polynomials and differences. No program in sight. -/
namespace Go.Proofs.Ytcalheieakppmaa

/-- The loop of a binomial coefficient, as the program reckons it. -/
def chs (n : Int) : Nat → Int
  | 0 => 1
  | k + 1 => (chs n k * (n - k)).tdiv (k + 1)

def ffn (n : Int) : Nat → Int
  | 0 => 1
  | k + 1 => ffn n k * (n - k)

def fct : Nat → Int
  | 0 => 1
  | k + 1 => (k + 1) * fct k

theorem fct_pos : ∀ k, 0 < fct k
  | 0 => by decide
  | k + 1 => Int.mul_pos (by omega) (fct_pos k)

theorem ffn_succ (n : Int) : ∀ k, ffn (n + 1) (k + 1) = (n + 1) * ffn n k
  | 0 => by simp [ffn]
  | k + 1 => by
    have ih := ffn_succ n k
    rw [ffn, ih, ffn, Int.mul_assoc]
    congr 2
    push_cast; omega

theorem ffn_step (n : Int) (k : Nat) : ffn (n + 1) (k + 1) = ffn n (k + 1) + ffn n k * (k + 1) := by
  rw [ffn_succ, ffn, Int.mul_comm (n + 1), ← Int.mul_add]
  congr 1
  omega

theorem int_ind {P : Int → Prop} (h0 : P 0) (hs : ∀ n, P n → P (n + 1)) (hp : ∀ n, P (n + 1) → P n) : ∀ n, P n := by
  have hnat : ∀ k : Nat, P (k : Int) ∧ P (-(k : Int)) := by
    intro k
    induction k with
    | zero => exact ⟨h0, h0⟩
    | succ k ih =>
      refine ⟨by have := hs _ ih.1; simpa using this, hp _ ?_⟩
      have e : -((k + 1 : Nat) : Int) + 1 = -(k : Int) := by omega
      rw [e]; exact ih.2
  intro n
  rcases Int.eq_nat_or_neg n with ⟨k, rfl | rfl⟩
  · exact (hnat k).1
  · exact (hnat k).2

theorem ffn_zero_succ (k : Nat) : ffn 0 (k + 1) = 0 := by
  induction k with
  | zero => simp [ffn]
  | succ k ih => rw [ffn, ih, Int.zero_mul]

theorem fct_dvd : ∀ (k : Nat) (n : Int), fct k ∣ ffn n k
  | 0, _ => Int.one_dvd _
  | k + 1, n => by
    have hd : ∀ n : Int, fct (k + 1) ∣ ffn n k * (k + 1) := fun n => by
      obtain ⟨q, hq⟩ := fct_dvd k n
      refine ⟨q, ?_⟩
      rw [hq, fct, Int.mul_comm (fct k * q), Int.mul_assoc]
    refine int_ind (P := fun n => fct (k + 1) ∣ ffn n (k + 1)) ?_ ?_ ?_ n
    · rw [ffn_zero_succ]; exact Int.dvd_zero _
    · intro n hn
      rw [ffn_step]
      exact Int.dvd_add hn (hd n)
    · intro n hn
      rw [ffn_step] at hn
      exact (Int.dvd_add_left (hd n)).1 hn

theorem chs_fct : ∀ (k : Nat) (n : Int), chs n k * fct k = ffn n k
  | 0, n => by simp [chs, fct, ffn]
  | k + 1, n => by
    have ih := chs_fct k n
    obtain ⟨q, hq⟩ := fct_dvd (k + 1) n
    have hp := fct_pos k
    have e : chs n k * (n - k) = (k + 1) * q := by
      have h1 : fct k * (chs n k * (n - k)) = fct k * ((k + 1) * q) := by
        rw [← Int.mul_assoc, Int.mul_comm (fct k), ih, show ffn n k * (n - k) = ffn n (k + 1) from rfl, hq, fct, Int.mul_comm ((k : Int) + 1), Int.mul_assoc]
      exact Int.eq_of_mul_eq_mul_left (by omega) h1
    rw [chs, e, Int.mul_tdiv_cancel_left _ (by omega), hq, Int.mul_comm]

theorem chs_step (n : Int) (k : Nat) : chs (n + 1) (k + 1) = chs n (k + 1) + chs n k := by
  have hp := fct_pos (k + 1)
  refine Int.eq_of_mul_eq_mul_right (a := fct (k + 1)) (by omega) ?_
  rw [chs_fct, ffn_step, Int.add_mul, chs_fct, fct, Int.mul_comm ((k : Int) + 1), ← Int.mul_assoc, chs_fct]

theorem chs_zero_succ (k : Nat) : chs 0 (k + 1) = 0 := by
  induction k with
  | zero => rfl
  | succ k ih => rw [chs, ih, Int.zero_mul, Int.zero_tdiv]

theorem tdiv_bd (x B : Int) (k : Nat) (h : -B ≤ x) (h' : x ≤ B) : -B ≤ x.tdiv (k + 1) ∧ x.tdiv (k + 1) ≤ B := by
  have hk : 0 < (k : Int) + 1 := by omega
  rcases Int.le_total 0 x with hx | hx
  · have h1 := Int.tdiv_nonneg hx (by omega : 0 ≤ (k : Int) + 1)
    have h2 := Int.tdiv_le_self ((k : Int) + 1) hx
    omega
  · have e : x.tdiv (k + 1) = -((-x).tdiv (k + 1)) := by rw [Int.neg_tdiv, Int.neg_neg]
    have h1 := Int.tdiv_nonneg (by omega : 0 ≤ -x) (by omega : 0 ≤ (k : Int) + 1)
    have h2 := Int.tdiv_le_self ((k : Int) + 1) (by omega : 0 ≤ -x)
    omega

/-- A bound of a quotient by a bound of the dividend. -/
theorem tdiv_bd' (x C : Int) (k : Nat) (h : -(C * (k + 1)) ≤ x) (h' : x ≤ C * (k + 1)) : -C ≤ x.tdiv (k + 1) ∧ x.tdiv (k + 1) ≤ C := by
  have hk : 0 < (k : Int) + 1 := by omega
  have key : ∀ y : Int, 0 ≤ y → y ≤ C * (k + 1) → y.tdiv (k + 1) ≤ C := fun y hy hy' => by
    rw [Int.tdiv_eq_ediv_of_nonneg hy]
    exact Int.ediv_le_of_le_mul hk hy'
  rcases Int.le_total 0 x with hx | hx
  · have h1 := Int.tdiv_nonneg hx (by omega : 0 ≤ (k : Int) + 1)
    have h2 := key x hx h'
    omega
  · have e : x.tdiv (k + 1) = -((-x).tdiv (k + 1)) := by rw [Int.neg_tdiv, Int.neg_neg]
    have h1 := Int.tdiv_nonneg (by omega : 0 ≤ -x) (by omega : 0 ≤ (k : Int) + 1)
    have h2 := key (-x) (by omega) (by omega)
    omega

theorem mul_bd (x y X Y : Int) (_hX : 0 ≤ X) (hx : -X ≤ x) (hx' : x ≤ X) (hy : -Y ≤ y) (hy' : y ≤ Y) : -(X * Y) ≤ x * y ∧ x * y ≤ X * Y := by
  have hY : 0 ≤ Y := by omega
  rcases Int.le_total 0 x with h | h
  · have a := Int.mul_le_mul_of_nonneg_left hy' h
    have b := Int.mul_le_mul_of_nonneg_left hy h
    have c := Int.mul_le_mul_of_nonneg_right hx' hY
    have d : x * -Y = -(x * Y) := Int.mul_neg _ _
    omega
  · have h' : 0 ≤ -x := by omega
    have a := Int.mul_le_mul_of_nonneg_left hy' h'
    have b := Int.mul_le_mul_of_nonneg_left hy h'
    have c := Int.mul_le_mul_of_nonneg_right (by omega : -x ≤ X) hY
    have d : -x * -Y = -(-x * Y) := Int.mul_neg _ _
    have e : -x * y = -(x * y) := Int.neg_mul _ _
    omega

def chB : Nat → Int
  | 0 => 1
  | 1 => 300
  | 2 => 45150
  | 3 => 4545100
  | 4 => 344291325
  | 5 => 20932912560
  | _ => 1064089721800

theorem chs_bd (n : Int) (hn : -300 ≤ n) (hn' : n ≤ 300) : ∀ k : Nat, k ≤ 6 → -chB k ≤ chs n k ∧ chs n k ≤ chB k := by
  have step : ∀ k : Nat, ∀ B C : Int, 0 ≤ B → k ≤ 5 → B * (300 + k) ≤ C * (k + 1) → (-B ≤ chs n k ∧ chs n k ≤ B) → -C ≤ chs n (k + 1) ∧ chs n (k + 1) ≤ C := by
    intro k B C hB hk hC h
    have m := mul_bd (chs n k) (n - k) B (300 + k) hB h.1 h.2 (by omega) (by omega)
    rw [chs]
    exact tdiv_bd' _ _ k (by omega) (by omega)
  have s0 : -chB 0 ≤ chs n 0 ∧ chs n 0 ≤ chB 0 := by simp [chs, chB]
  have s1 := step 0 (chB 0) (chB 1) (by decide) (by omega) (by decide) s0
  have s2 := step 1 (chB 1) (chB 2) (by decide) (by omega) (by decide) s1
  have s3 := step 2 (chB 2) (chB 3) (by decide) (by omega) (by decide) s2
  have s4 := step 3 (chB 3) (chB 4) (by decide) (by omega) (by decide) s3
  have s5 := step 4 (chB 4) (chB 5) (by decide) (by omega) (by decide) s4
  have s6 := step 5 (chB 5) (chB 6) (by decide) (by omega) (by decide) s5
  intro k hk
  match k, hk with
  | 0, _ => exact s0
  | 1, _ => exact s1
  | 2, _ => exact s2
  | 3, _ => exact s3
  | 4, _ => exact s4
  | 5, _ => exact s5
  | 6, _ => exact s6
  | k + 7, h => omega

theorem chB_le (k : Nat) (hk : k ≤ 6) : 0 ≤ chB k ∧ chB k ≤ 1064089721800 := by
  match k, hk with
  | 0, _ | 1, _ | 2, _ | 3, _ | 4, _ | 5, _ | 6, _ => exact ⟨by decide, by decide⟩
  | k + 7, h => omega

theorem chs_mul (n : Int) (hn : -300 ≤ n) (hn' : n ≤ 300) (k : Nat) (hk : k < 6) : -1000000000000000 ≤ chs n k * (n - k) ∧ chs n k * (n - k) ≤ 1000000000000000 := by
  have h := chs_bd n hn hn' k (by omega)
  have hb := chB_le k (by omega)
  have m := mul_bd (chs n k) (n - k) 1064089721800 306 (by decide) (by omega) (by omega) (by omega) (by omega)
  omega

/-- The value of a polynomial whose differences are p, beginning with the order j. -/
def valF : Nat → List Int → Int → Int
  | _, [], _ => 0
  | j, d :: r, n => d * chs n j + valF (j + 1) r n

def val (p : List Int) (n : Int) : Int := valF 0 p n

theorem valF_snoc : ∀ (p : List Int) (j : Nat) (d n : Int), valF j (p ++ [d]) n = valF j p n + d * chs n (j + p.length)
  | [], j, d, n => by simp [valF]
  | x :: p, j, d, n => by
    have h := valF_snoc p (j + 1) d n
    simp only [List.cons_append, valF, List.length_cons, h]
    rw [show j + 1 + p.length = j + (p.length + 1) from by omega]
    omega

theorem val_take (p : List Int) (k : Nat) (x n : Int) (h : p[k]? = some x) : val (p.take (k + 1)) n = val (p.take k) n + x * chs n k := by
  obtain ⟨hk, rfl⟩ := List.getElem?_eq_some_iff.1 h
  rw [List.take_succ_eq_append_getElem hk, val, valF_snoc, val, Nat.zero_add, List.length_take, Nat.min_eq_left (by omega)]

def inB (n b : Int) : Bool := decide (-b ≤ n) && decide (n ≤ b)
def allB (zs : List Int) (b : Int) : Bool := zs.all fun x => inB x b
def validP (p : List Int) : Bool := decide (1 ≤ p.length) && (decide (p.length ≤ 7) && allB p 100000)

theorem inB_iff {n b : Int} : inB n b = true ↔ -b ≤ n ∧ n ≤ b := by simp [inB]
theorem allB_iff {zs : List Int} {b : Int} : allB zs b = true ↔ ∀ x ∈ zs, -b ≤ x ∧ x ≤ b := by simp [allB, inB]
theorem validP_iff {p : List Int} : validP p = true ↔ 1 ≤ p.length ∧ p.length ≤ 7 ∧ ∀ x ∈ p, -100000 ≤ x ∧ x ≤ 100000 := by
  simp [validP, allB_iff]

theorem valF_bd : ∀ (p : List Int) (j : Nat) (B n : Int), 0 ≤ B → -300 ≤ n → n ≤ 300 → j + p.length ≤ 7 → (∀ x ∈ p, -B ≤ x ∧ x ≤ B) →
    -(p.length * (B * 1064089721800)) ≤ valF j p n ∧ valF j p n ≤ p.length * (B * 1064089721800)
  | [], j, B, n, _, _, _, _, _ => by simp [valF]
  | d :: r, j, B, n, hB, hn, hn', hl, hx => by
    simp only [List.length_cons] at hl
    have ih := valF_bd r (j + 1) B n hB hn hn' (by omega) fun x hx' => hx x (List.mem_cons_of_mem _ hx')
    have hd := hx d List.mem_cons_self
    have hc := chs_bd n hn hn' j (by omega)
    have hb := chB_le j (by omega)
    have m := mul_bd d (chs n j) B 1064089721800 hB hd.1 hd.2 (by omega) (by omega)
    simp only [valF, List.length_cons]
    have e : ((r.length + 1 : Nat) : Int) * (B * 1064089721800) = r.length * (B * 1064089721800) + B * 1064089721800 := by
      push_cast; rw [Int.add_mul, Int.one_mul]
    omega

theorem val_bd {p : List Int} (hp : p.length ≤ 7) (hx : ∀ x ∈ p, -100000 ≤ x ∧ x ≤ 100000) (n : Int) (hn : -300 ≤ n) (hn' : n ≤ 300) : -744862805260000000 ≤ val p n ∧ val p n ≤ 744862805260000000 := by
  have h := valF_bd p 0 100000 n (by decide) hn hn' (by omega) hx
  have e : (p.length : Int) * (100000 * 1064089721800) = p.length * 106408972180000000 := by simp
  rw [e] at h
  unfold val
  omega

end Go.Proofs.Ytcalheieakppmaa
