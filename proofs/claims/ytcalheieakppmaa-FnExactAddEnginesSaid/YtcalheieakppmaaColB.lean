/- Plain mathematics of engines: what turns, halves and set-ups askew do to the numbers that the columns show. -/
import Derived.Test.YtcalheieakppmaaColA
namespace Go.Proofs.Ytcalheieakppmaa

theorem val_cons (x : Int) (r : List Int) (n : Int) : val (x :: r) n = x + valF 1 r n := by simp [val, valF, chs]
theorem valF1_zero (r : List Int) : valF 1 r 0 = 0 := valF_zero r 0
theorem valF1_step (r : List Int) (n : Int) : valF 1 r (n + 1) = valF 1 r n + val r n := by
  have h := valF_step r 0 n
  simpa [val] using h

theorem val_head (p : List Int) : val p 0 = p.getD 0 0 := by
  cases p with
  | nil => rfl
  | cons d r => rw [val_zero]; rfl

theorem drop_head (p : List Int) (i : Nat) : (p.drop i).getD 0 0 = p.getD i 0 := by
  rw [List.getD_eq_getElem?_getD, List.getElem?_drop, List.getD_eq_getElem?_getD, Nat.add_zero]

theorem val_drop_zero (p : List Int) (i : Nat) : val (p.drop i) 0 = p.getD i 0 := by rw [val_head, drop_head]

theorem val_drop_step (p : List Int) (i : Nat) (n : Int) : val (p.drop i) (n + 1) = val (p.drop i) n + val (p.drop (i + 1)) n := by
  have := val_step (p.drop i) n
  rwa [List.drop_drop] at this

/-- The numbers after n turns. -/
def manyV (vs : List Int) (n : Int) : List Int := tab vs.length fun i => val (vs.drop i) n

theorem manyV_eq (vs : List Int) (n : Int) : manyV vs n = tab vs.length fun i => val (vs.drop i) n := rfl
theorem manyV_length (vs : List Int) (n : Int) : (manyV vs n).length = vs.length := tab_length _ _
theorem manyV_zero (vs : List Int) : manyV vs 0 = vs := by
  rw [manyV, tab_congr (g := fun i => vs.getD i 0) fun i _ => val_drop_zero vs i, tab_drop_eq]

theorem val_manyV (vs : List Int) (n m : Int) : val (manyV vs n) m = val vs (m + n) := by
  rw [manyV, ← fd_vals]
  have e : (tab vs.length fun i => val vs (n + i)) = tab vs.length fun i => (fun m => val vs (m + n)) (i : Int) := tab_congr fun i _ => by simp only; rw [Int.add_comm]
  rw [e]
  exact val_fd_tab ((flat_val vs).shift n) m

theorem tab_drop (n i : Nat) (f : Nat → Int) : (tab n f).drop i = tab (n - i) fun k => f (i + k) := by
  refine List.ext_getElem? fun k => ?_
  rw [List.getElem?_drop]
  by_cases hk : i + k < n
  · rw [tab_at _ hk, tab_at _ (by omega)]
  · rw [List.getElem?_eq_none (by rw [tab_length]; omega), List.getElem?_eq_none (by rw [tab_length]; omega)]

theorem manyV_drop (vs : List Int) (n : Int) (i : Nat) : (manyV vs n).drop i = manyV (vs.drop i) n := by
  rw [manyV, tab_drop, manyV, List.length_drop]
  exact tab_congr fun k _ => by rw [List.drop_drop]

theorem manyV_manyV (vs : List Int) (a b : Int) : manyV (manyV vs a) b = manyV vs (b + a) := by
  rw [manyV_eq (manyV vs a) b, manyV_length, manyV_eq vs (b + a)]
  exact tab_congr fun i _ => by rw [manyV_drop, val_manyV]

theorem manyV_at {vs : List Int} (n : Int) {i : Nat} (h : i < vs.length) : (manyV vs n)[i]? = some (val (vs.drop i) n) := tab_at _ h

/-- One turn: each number, and the next one. -/
theorem manyV_one_at {vs : List Int} {i : Nat} {x y : Int} (hx : vs[i]? = some x) (hy : vs[i + 1]? = some y) : (manyV vs 1)[i]? = some (x + y) := by
  have hi := (List.getElem?_eq_some_iff.1 hx).1
  rw [manyV_at 1 hi, show (1 : Int) = 0 + 1 from rfl, val_drop_step, val_drop_zero, val_drop_zero, List.getD_eq_getElem?_getD, List.getD_eq_getElem?_getD, hx, hy]
  rfl
theorem manyV_last {vs : List Int} {i : Nat} (n : Int) (hi : i + 1 = vs.length) : (manyV vs n)[i]? = vs[i]? := by
  rw [manyV_at n (by omega), List.getElem?_eq_getElem (by omega), List.drop_eq_getElem_cons (by omega), hi, List.drop_length]
  simp [val, valF, chs]
/-- One turn back: each number, less the next one after the turn back. -/
theorem manyV_back_at {vs : List Int} {i : Nat} {x y : Int} (hx : vs[i]? = some x) (hy : (manyV vs (-1))[i + 1]? = some y) : (manyV vs (-1))[i]? = some (x - y) := by
  have hi := (List.getElem?_eq_some_iff.1 hx).1
  have hi2 : i + 1 < vs.length := by
    have := (List.getElem?_eq_some_iff.1 hy).1
    rwa [manyV_length] at this
  rw [manyV_at _ hi2] at hy
  injection hy with hy
  have h := val_drop_step vs i (-1)
  rw [show (-1 : Int) + 1 = 0 from rfl, val_drop_zero, List.getD_eq_getElem?_getD, hx] at h
  rw [manyV_at _ hi, ← hy]
  congr 1
  simp only [Option.getD_some] at h
  omega

/-- Half a turn: the columns with an index of the parity f. -/
def halfV (f : Nat) (vs : List Int) : List Int := tab vs.length fun i => if i % 2 = f then vs.getD i 0 + vs.getD (i + 1) 0 else vs.getD i 0
theorem halfV_length (f : Nat) (vs : List Int) : (halfV f vs).length = vs.length := tab_length _ _
theorem halfV_at {f : Nat} {vs : List Int} {i : Nat} (h : i < vs.length) : (halfV f vs)[i]? = some (if i % 2 = f then vs.getD i 0 + vs.getD (i + 1) 0 else vs.getD i 0) := tab_at _ h

theorem getD_at {vs : List Int} {i : Nat} {x : Int} (h : vs[i]? = some x) : vs.getD i 0 = x := by rw [List.getD_eq_getElem?_getD, h]; rfl
theorem getD_none {vs : List Int} {i : Nat} (h : vs.length ≤ i) : vs.getD i 0 = 0 := by rw [List.getD_eq_getElem?_getD, List.getElem?_eq_none h]; rfl

/-- Set up askew: the column with the index i is that of i / 2 turns before. -/
def skewV (vs : List Int) : List Int := tab vs.length fun i => val (vs.drop i) (-((i / 2 : Nat) : Int))
theorem skewV_length (vs : List Int) : (skewV vs).length = vs.length := tab_length _ _
theorem skewV_at {vs : List Int} {i : Nat} (h : i < vs.length) : (skewV vs)[i]? = some (val (vs.drop i) (-((i / 2 : Nat) : Int))) := tab_at _ h
theorem skewV_getD (vs : List Int) (i : Nat) : (skewV vs).getD i 0 = val (vs.drop i) (-((i / 2 : Nat) : Int)) := by
  by_cases h : i < vs.length
  · exact getD_at (skewV_at h)
  · rw [getD_none (by rw [skewV_length]; omega), List.drop_eq_nil_of_le (by omega)]; rfl

/-- The other way. The list begins with the index i. -/
def unskG : Nat → List Int → List Int
  | _, [] => []
  | i, c :: r => (c - valF 1 (unskG (i + 1) r) (-((i / 2 : Nat) : Int))) :: unskG (i + 1) r
def unskV (vs : List Int) : List Int := unskG 0 vs

theorem unskG_length : ∀ (i : Nat) (vs : List Int), (unskG i vs).length = vs.length
  | _, [] => rfl
  | i, c :: r => by simp [unskG, unskG_length (i + 1) r]
theorem unskV_length (vs : List Int) : (unskV vs).length = vs.length := unskG_length 0 vs

theorem unskG_drop : ∀ (j i : Nat) (vs : List Int), (unskG i vs).drop j = unskG (i + j) (vs.drop j)
  | 0, i, vs => rfl
  | j + 1, i, [] => by simp [unskG]
  | j + 1, i, c :: r => by
    rw [unskG, List.drop_succ_cons, List.drop_succ_cons, unskG_drop j (i + 1) r, show i + 1 + j = i + (j + 1) by omega]

theorem skew_unsk (vs : List Int) : skewV (unskV vs) = vs := by
  refine List.ext_getElem? fun k => ?_
  by_cases hk : k < vs.length
  · rw [skewV_at (by rw [unskV_length]; exact hk), unskV, unskG_drop, Nat.zero_add, List.drop_eq_getElem_cons hk, unskG, val_cons, List.getElem?_eq_getElem hk]
    congr 1
    omega
  · rw [List.getElem?_eq_none (by rw [skewV_length, unskV_length]; omega), List.getElem?_eq_none (by omega)]

theorem unskG_skew : ∀ (i : Nat) (vs : List Int), unskG i (tab vs.length fun j => val (vs.drop j) (-(((i + j) / 2 : Nat) : Int))) = vs
  | _, [] => rfl
  | i, c :: r => by
    have ih := unskG_skew (i + 1) r
    rw [List.length_cons, tab_succ, unskG]
    have e : (tab r.length fun j => val ((c :: r).drop (j + 1)) (-(((i + (j + 1)) / 2 : Nat) : Int))) = tab r.length fun j => val (r.drop j) (-(((i + 1 + j) / 2 : Nat) : Int)) :=
      tab_congr fun j _ => by rw [List.drop_succ_cons, show i + (j + 1) = i + 1 + j by omega]
    rw [e, ih, List.drop_zero, val_cons]
    congr 1
    simp
theorem unsk_skew (vs : List Int) : unskV (skewV vs) = vs := by
  have := unskG_skew 0 vs
  rwa [show (fun j => val (vs.drop j) (-(((0 + j) / 2 : Nat) : Int))) = fun j => val (vs.drop j) (-((j / 2 : Nat) : Int)) from funext fun j => by rw [Nat.zero_add]] at this

/-- The program's way: turned back as often, and forth again with the column c. -/
theorem forth_again (c : Int) (H : List Int) (m : Nat) : val (c :: manyV H (-(m : Int))) m = c - valF 1 H (-(m : Int)) := by
  have h : ∀ k : Nat, valF 1 (manyV H (-(m : Int))) k = valF 1 H (k + -(m : Int)) - valF 1 H (-(m : Int)) := by
    intro k
    induction k with
    | zero => rw [show ((0 : Nat) : Int) = 0 from rfl, valF1_zero, Int.zero_add]; omega
    | succ k ih =>
      rw [show ((k + 1 : Nat) : Int) = (k : Int) + 1 by omega, valF1_step, ih, val_manyV, show (k : Int) + 1 + -(m : Int) = (k : Int) + -(m : Int) + 1 by omega, valF1_step]
      omega
  rw [val_cons, h m, show (m : Int) + -(m : Int) = 0 by omega, valF1_zero]
  omega

/-- The reference's way: the next column's numbers some turns before, added one after the other. -/
def sumB (H : List Int) : Nat → Int
  | 0 => 0
  | s + 1 => sumB H s + val H (-((s + 1 : Nat) : Int))
theorem sumB_eq (H : List Int) : ∀ m : Nat, sumB H m = -valF 1 H (-(m : Int))
  | 0 => by rw [show (-((0 : Nat) : Int)) = 0 from rfl, valF1_zero]; rfl
  | m + 1 => by
    have h := valF1_step H (-((m + 1 : Nat) : Int))
    rw [show -((m + 1 : Nat) : Int) + 1 = -(m : Int) by omega] at h
    rw [sumB, sumB_eq H m]
    omega

/-- A turn in two halves, askew. -/
theorem halves_skew (vs : List Int) : halfV 1 (halfV 0 (skewV vs)) = skewV (manyV vs 1) := by
  have h0 : ∀ i, (halfV 0 (skewV vs)).getD i 0 = if i % 2 = 0 then val (vs.drop i) (-((i / 2 : Nat) : Int) + 1) else val (vs.drop i) (-((i / 2 : Nat) : Int)) := by
    intro i
    by_cases hi : i < vs.length
    · rw [getD_at (halfV_at (by rw [skewV_length]; exact hi)), skewV_getD, skewV_getD]
      split
      · rename_i he
        rw [val_drop_step, show (i + 1) / 2 = i / 2 by omega]
      · rfl
    · rw [getD_none (by rw [halfV_length, skewV_length]; omega), List.drop_eq_nil_of_le (by omega)]
      split <;> rfl
  refine List.ext_getElem? fun i => ?_
  by_cases hi : i < vs.length
  · rw [halfV_at (by rw [halfV_length, skewV_length]; exact hi), skewV_at (by rw [manyV_length]; exact hi), manyV_drop, val_manyV, h0 i, h0 (i + 1)]
    congr 1
    by_cases he : i % 2 = 0
    · rw [if_neg (by omega), if_pos he]
    · rw [if_pos (by omega), if_neg he, if_pos (by omega), show -((((i + 1) / 2 : Nat)) : Int) + 1 = -((i / 2 : Nat) : Int) by omega]
      exact (val_drop_step vs i _).symm
  · rw [List.getElem?_eq_none (by rw [halfV_length, halfV_length, skewV_length]; omega), List.getElem?_eq_none (by rw [skewV_length, manyV_length]; omega)]

/-! Sums of engines. -/
def plusV (a b : List Int) : List Int := tab a.length fun i => a.getD i 0 + b.getD i 0
theorem plusV_length (a b : List Int) : (plusV a b).length = a.length := tab_length _ _
theorem plusV_at {a b : List Int} {i : Nat} {x y : Int} (hx : a[i]? = some x) (hy : b[i]? = some y) : (plusV a b)[i]? = some (x + y) := by
  rw [plusV, tab_at _ (List.getElem?_eq_some_iff.1 hx).1, getD_at hx, getD_at hy]
theorem plusV_comm {a b : List Int} (h : a.length = b.length) : plusV a b = plusV b a := by
  rw [plusV, plusV, h]
  exact tab_congr fun i _ => Int.add_comm _ _

theorem valF_plus (n : Int) : ∀ (a b : List Int) (j : Nat), a.length = b.length → valF j (plusV a b) n = valF j a n + valF j b n
  | [], [], _, _ => rfl
  | x :: a, y :: b, j, h => by
    have ih := valF_plus n a b (j + 1) (by simpa using h)
    have e : plusV (x :: a) (y :: b) = (x + y) :: plusV a b := by
      rw [plusV, List.length_cons, tab_succ]
      rfl
    rw [e]
    simp only [valF, ih]
    grind
theorem val_plus {a b : List Int} (h : a.length = b.length) (n : Int) : val (plusV a b) n = val a n + val b n := valF_plus n a b 0 h
theorem plusV_drop (a b : List Int) (i : Nat) : (plusV a b).drop i = plusV (a.drop i) (b.drop i) := by
  rw [plusV, tab_drop, plusV, List.length_drop]
  exact tab_congr fun k _ => by
    rw [List.getD_eq_getElem?_getD, List.getD_eq_getElem?_getD, List.getD_eq_getElem?_getD, List.getD_eq_getElem?_getD, List.getElem?_drop, List.getElem?_drop]
theorem many_plus {a b : List Int} (h : a.length = b.length) (n : Int) : manyV (plusV a b) n = plusV (manyV a n) (manyV b n) := by
  rw [manyV_eq (plusV a b) n, plusV_length, show plusV (manyV a n) (manyV b n) = tab (manyV a n).length fun i => (manyV a n).getD i 0 + (manyV b n).getD i 0 from rfl, manyV_length]
  exact tab_congr fun i hi => by
    rw [plusV_drop, val_plus (by rw [List.length_drop, List.length_drop, h]), getD_at (manyV_at n hi), getD_at (manyV_at n (by omega))]
theorem skew_plus {a b : List Int} (h : a.length = b.length) : skewV (plusV a b) = plusV (skewV a) (skewV b) := by
  rw [show skewV (plusV a b) = tab (plusV a b).length fun i => val ((plusV a b).drop i) (-((i / 2 : Nat) : Int)) from rfl, plusV_length, show plusV (skewV a) (skewV b) = tab (skewV a).length fun i => (skewV a).getD i 0 + (skewV b).getD i 0 from rfl, skewV_length]
  exact tab_congr fun i hi => by
    rw [plusV_drop, val_plus (by rw [List.length_drop, List.length_drop, h]), getD_at (skewV_at hi), getD_at (skewV_at (by omega))]

/-! Numbers that are the same modulo the columns' size. -/
def Same (W : Nat) (a b : List Int) : Prop := a.length = b.length ∧ ∀ i, a.getD i 0 % ten W = b.getD i 0 % ten W

theorem eng_congr {W : Nat} {a b : List Int} (h : Same W a b) : eng W a = eng W b := by
  refine List.ext_getElem? fun k => ?_
  by_cases hk : k < a.length
  · have hk' : k < b.length := by rw [← h.1]; exact hk
    have hk2 := h.2 k
    rw [getD_at (List.getElem?_eq_getElem hk), getD_at (List.getElem?_eq_getElem hk')] at hk2
    rw [eng_at (List.getElem?_eq_getElem hk), eng_at (List.getElem?_eq_getElem hk'), showC_congr hk2]
  · rw [List.getElem?_eq_none (by rw [eng_length]; omega), List.getElem?_eq_none (by rw [eng_length, ← h.1]; omega)]

theorem add_mod2 {M a b c d : Int} (h : a % M = b % M) (k : c % M = d % M) : (a + c) % M = (b + d) % M := by
  rw [Int.add_emod, h, k, ← Int.add_emod]
theorem mul_mod2 {M a b : Int} (c : Int) (h : a % M = b % M) : (a * c) % M = (b * c) % M := by
  rw [Int.mul_emod, h, ← Int.mul_emod]

theorem valF_same {W : Nat} (n : Int) : ∀ (a b : List Int) (j : Nat), Same W a b → valF j a n % ten W = valF j b n % ten W
  | [], [], _, _ => rfl
  | [], y :: b, _, h => by have := h.1; simp at this
  | x :: a, [], _, h => by have := h.1; simp at this
  | x :: a, y :: b, j, h => by
    have h0 := h.2 0
    simp only [List.getD_cons_zero] at h0
    have ih := valF_same n a b (j + 1) ⟨by simpa using h.1, fun i => by have := h.2 (i + 1); simpa using this⟩
    simp only [valF]
    exact add_mod2 (mul_mod2 _ h0) ih
theorem Same.drop {W : Nat} {a b : List Int} (h : Same W a b) (i : Nat) : Same W (a.drop i) (b.drop i) :=
  ⟨by rw [List.length_drop, List.length_drop, h.1], fun k => by
    have := h.2 (i + k)
    rwa [List.getD_eq_getElem?_getD, List.getD_eq_getElem?_getD, ← List.getElem?_drop, ← List.getElem?_drop, ← List.getD_eq_getElem?_getD, ← List.getD_eq_getElem?_getD] at this⟩
theorem Same.val {W : Nat} {a b : List Int} (h : Same W a b) (n : Int) : val a n % ten W = val b n % ten W := valF_same n a b 0 h
theorem Same.sgn {W : Nat} (a : List Int) : Same W (a.map (sgn W)) a :=
  ⟨by simp, fun i => by
    rw [List.getD_eq_getElem?_getD, List.getElem?_map, List.getD_eq_getElem?_getD]
    cases a[i]? with
    | none => rfl
    | some x => exact sgn_mod W x⟩
theorem eng_sgn (W : Nat) (a : List Int) : eng W (a.map (Go.Proofs.Ytcalheieakppmaa.sgn W)) = eng W a := eng_congr (Same.sgn a)

end Go.Proofs.Ytcalheieakppmaa
