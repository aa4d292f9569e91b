/- Plain mathematics: tables of numbers, their least degree, their interpolation. -/
import Derived.Test.YtkmblobfamhoiaaPureK
namespace Go.Proofs.Ytkmblobfamhoiaa

def tabV (zs : List Int) : Bool := decide (1 ≤ zs.length) && (decide (zs.length ≤ 60) && allB zs 1000000000)

theorem tabV_iff {zs : List Int} : tabV zs = true ↔ 1 ≤ zs.length ∧ zs.length ≤ 60 ∧ ∀ x ∈ zs, -1000000000 ≤ x ∧ x ≤ 1000000000 := by
  simp [tabV, allB_iff]

/-- The number of rows of differences, n at most, ahead of the first that is all 0. -/
def zc : Nat → List Int → Nat
  | 0, _ => 0
  | n + 1, zs => if allB zs 0 then 0 else zc n (nbr zs) + 1

def ldeg (zs : List Int) : Int := if tabV zs then (zc 8 zs : Int) - 1 else -2
def interP (zs : List Int) : Option (List Int) := if tabV zs && decide (zc 8 zs ≤ 7) then chk (fd (zs.take (max (zc 8 zs) 1))) else none

theorem zc_le : ∀ (n : Nat) (zs : List Int), zc n zs ≤ n
  | 0, _ => Nat.le_refl _
  | n + 1, zs => by
    rw [zc]
    split
    · omega
    · have := zc_le n (nbr zs); omega

theorem zc_zero : ∀ (n : Nat) (zs : List Int), zc n zs < n → allB (nbrs (zc n zs) zs) 0 = true
  | 0, _, h => absurd h (by omega)
  | n + 1, zs, h => by
    rw [zc] at h ⊢
    split
    · assumption
    · rename_i hc
      rw [if_neg hc] at h
      rw [← nbrs_nbr]
      exact zc_zero n _ (by omega)

theorem zc_before : ∀ (n : Nat) (zs : List Int) (j : Nat), j < zc n zs → allB (nbrs j zs) 0 = false
  | 0, _, j, h => absurd h (by simp [zc])
  | n + 1, zs, j, h => by
    rw [zc] at h
    split at h
    · omega
    · rename_i hc
      cases j with
      | zero => simpa [nbrs] using hc
      | succ j => rw [← nbrs_nbr]; exact zc_before n _ j (by omega)

theorem zc_step {n j : Nat} {zs : List Int} (h : allB (nbrs j zs) 0 = false) (k : j + zc (n + 1) (nbrs j zs) = zc 8 zs) : j + 1 + zc n (nbrs (j + 1) zs) = zc 8 zs := by
  rw [zc, if_neg (by rw [h]; simp)] at k
  rw [show nbrs (j + 1) zs = nbr (nbrs j zs) from rfl]
  omega

theorem zc_stop {n j : Nat} {zs : List Int} (h : allB (nbrs j zs) 0 = true) (k : j + zc (n + 1) (nbrs j zs) = zc 8 zs) : zc 8 zs = j := by
  rw [zc, if_pos h] at k
  omega

theorem nbr_zero {zs : List Int} (h : allB zs 0 = true) : allB (nbr zs) 0 = true := by
  rw [allB_iff] at h ⊢
  intro x hx
  have := nbr_bd zs 0 (fun y hy => by have := h y hy; omega) x hx
  omega

theorem nbrs_zero {zs : List Int} {m : Nat} (h : allB (nbrs m zs) 0 = true) : ∀ d, allB (nbrs (m + d) zs) 0 = true
  | 0 => h
  | d + 1 => nbr_zero (nbrs_zero h d)

theorem zc_least : ∀ (n : Nat) (zs : List Int) (j : Nat), allB (nbrs j zs) 0 = true → zc n zs ≤ j
  | n, zs, j, h => by
    rcases Nat.lt_or_ge j (zc n zs) with hl | hg
    · have := zc_before n zs j hl
      rw [h] at this; cases this
    · exact hg

theorem nbr_take : ∀ (zs : List Int) (M : Nat), nbr (zs.take (M + 1)) = (nbr zs).take M
  | [], M => by simp [nbr]
  | [a], M => by simp [nbr]
  | a :: b :: r, 0 => by simp [nbr]
  | a :: b :: r, M + 1 => by
    have ih := nbr_take (b :: r) M
    simp only [List.take_succ_cons] at ih ⊢
    simp only [nbr, List.take_succ_cons, ih]

theorem fd_take : ∀ (M : Nat) (zs : List Int), fd (zs.take M) = (fd zs).take M
  | 0, zs => by simp [fd, fdN]
  | M + 1, [] => by simp [fd, fdN]
  | M + 1, a :: r => by
    have h := nbr_take (a :: r) M
    rw [List.take_succ_cons] at h ⊢
    rw [fd_cons, fd_cons, h, fd_take M, List.take_succ_cons]

theorem fd_zero {zs : List Int} {k : Nat} (h : allB (nbrs k zs) 0 = true) (hk : k < zs.length) : (fd zs)[k]? = some 0 := by
  obtain ⟨x, hx⟩ := nbrs_zero_at zs k hk
  have h0 := allB_iff.1 h x (List.mem_of_getElem? hx)
  have : x = 0 := by omega
  subst this
  exact fd_at zs k 0 hx

theorem val_zeros (p : List Int) (m : Nat) (n : Int) (h : ∀ k, m ≤ k → k < p.length → p[k]? = some 0) : ∀ d, val (p.take (m + d)) n = val (p.take m) n
  | 0 => rfl
  | d + 1 => by
    have ih := val_zeros p m n h d
    by_cases hl : m + d < p.length
    · rw [show m + (d + 1) = m + d + 1 by omega, val_take p (m + d) 0 n (h _ (by omega) hl), ih]
      omega
    · rw [List.take_of_length_le (by omega)]
      rw [List.take_of_length_le (by omega)] at ih
      exact ih

theorem val_zeros_all (p : List Int) (m : Nat) (n : Int) (h : ∀ k, m ≤ k → k < p.length → p[k]? = some 0) : val (p.take m) n = val p n := by
  have := val_zeros p m n h p.length
  rw [List.take_of_length_le (by omega)] at this
  exact this.symm

/-- A row whose differences are all 0 holds one number alone. -/
theorem const_row : ∀ (zs : List Int) (x : Int), allB (nbr zs) 0 = true → zs[0]? = some x → ∀ y ∈ zs, y = x
  | [], x, _, _, y, hy => by simp at hy
  | [a], x, _, h0, y, hy => by simp at h0 hy; omega
  | a :: b :: r, x, h, h0, y, hy => by
    have hb : b - a = 0 := by
      have := allB_iff.1 h (b - a) (by simp [nbr])
      omega
    have hr : allB (nbr (b :: r)) 0 = true := allB_iff.2 fun z hz => allB_iff.1 h z (by simp only [nbr, List.mem_cons]; exact .inr hz)
    have ih := const_row (b :: r) b hr rfl
    simp at h0
    rcases List.mem_cons.1 hy with rfl | hy
    · exact h0
    · have := ih y hy; omega

/-- The first entry of the last row that is not all 0 is not 0. -/
theorem lead_ne {zs : List Int} {m : Nat} (h1 : allB (nbrs m zs) 0 = false) (h2 : allB (nbrs (m + 1) zs) 0 = true) : ∃ x, (fd zs)[m]? = some x ∧ x ≠ 0 ∧ m < zs.length := by
  have hm : m < zs.length := by
    rcases Nat.lt_or_ge m zs.length with hl | hg
    · exact hl
    · exfalso
      have : nbrs m zs = [] := List.eq_nil_of_length_eq_zero (by rw [nbrs_length]; omega)
      rw [this] at h1; simp [allB] at h1
  obtain ⟨x, hx⟩ := nbrs_zero_at zs m hm
  refine ⟨x, fd_at zs m x hx, ?_, hm⟩
  intro h0
  have hc := const_row (nbrs m zs) x h2 hx
  have : allB (nbrs m zs) 0 = true := allB_iff.2 fun y hy => by have := hc y hy; omega
  rw [h1] at this; cases this

theorem zc_lead {zs : List Int} {m : Nat} (h : zc 8 zs = m + 1) (h7 : m + 1 ≤ 7) : ∃ x, (fd zs)[m]? = some x ∧ x ≠ 0 ∧ m < zs.length := by
  refine lead_ne (zc_before 8 zs m (by omega)) ?_
  rw [← h]
  exact zc_zero 8 zs (by omega)

theorem interP_some {zs p : List Int} (h : interP zs = some p) : tabV zs = true ∧ validP p = true ∧ zc 8 zs ≤ 7 ∧ p = (fd zs).take (max (zc 8 zs) 1) ∧ p.length = max (zc 8 zs) 1 ∧ p.length ≤ zs.length ∧
    ∀ (i : Nat) (x : Int), zs[i]? = some x → val p i = x := by
  rw [interP] at h
  split at h
  · rename_i hc
    simp only [Bool.and_eq_true, decide_eq_true_eq] at hc
    obtain ⟨e, hv⟩ := chk_some h
    rw [fd_take] at e
    have hz1 := (tabV_iff.1 hc.1).1
    have hM : max (zc 8 zs) 1 ≤ zs.length := by
      rcases Nat.eq_zero_or_pos (zc 8 zs) with h0 | h0
      · omega
      · obtain ⟨m, hm⟩ : ∃ m, zc 8 zs = m + 1 := ⟨zc 8 zs - 1, by omega⟩
        obtain ⟨_, _, _, hl⟩ := zc_lead hm (by omega)
        omega
    have hpl : p.length = max (zc 8 zs) 1 := by rw [e, List.length_take, fd_length]; omega
    refine ⟨hc.1, hv, hc.2, e, hpl, by omega, fun i x hx => ?_⟩
    have hzero : ∀ k, zc 8 zs ≤ k → k < (fd zs).length → (fd zs)[k]? = some 0 := fun k hk hk' => by
      rw [fd_length] at hk'
      refine fd_zero ?_ hk'
      obtain ⟨d, rfl⟩ : ∃ d, k = zc 8 zs + d := ⟨k - zc 8 zs, by omega⟩
      exact nbrs_zero (zc_zero 8 zs (by omega)) d
    rw [e, val_zeros_all _ _ _ (fun k hk hk' => hzero k (by omega) hk')]
    exact val_fd zs.length zs (Nat.le_refl _) i x hx
  · cases h

theorem interP_deg {zs p : List Int} (h : interP zs = some p) : degP p = ldeg zs := by
  obtain ⟨ht, hv, h7, e, hl, hle, hval⟩ := interP_some h
  rw [ldeg, if_pos ht]
  rcases Nat.eq_zero_or_pos (zc 8 zs) with h0 | h0
  · have hz : allB (nbrs 0 zs) 0 = true := by have := zc_zero 8 zs (by omega); rwa [h0] at this
    have hp0 : p[0]? = some 0 := by
      rw [e, List.getElem?_take_of_lt (by omega)]
      exact fd_zero hz (tabV_iff.1 ht).1
    have hl1 : p.length = 1 := by omega
    have := (degP_zero hv ((allB_zero p (by omega)).2 ⟨by rw [hl1]; exact trimN_stop (.inl rfl), hp0⟩)).1
    omega
  · obtain ⟨m, hm⟩ : ∃ m, zc 8 zs = m + 1 := ⟨zc 8 zs - 1, by omega⟩
    obtain ⟨x, hx, hx0, hlt⟩ := zc_lead hm (by omega)
    have hpm : p[m]? = some x := by rw [e, List.getElem?_take_of_lt (by omega)]; exact hx
    have hpl : p.length = m + 1 := by omega
    have ht2 : trimN p p.length = p.length := by
      rw [hpl]
      refine trimN_stop (.inr ?_)
      rw [hpm]
      intro h; injection h with h; exact hx0 h
    have ha : allB p 0 = false := by
      cases hb : allB p 0
      · rfl
      · have := allB_iff.1 hb x (List.mem_of_getElem? hpm); omega
    rw [degP, if_pos hv, if_neg (by rw [ha]; simp), ht2, hpl, hm]

theorem chs_self : ∀ k : Nat, chs (k : Int) k = 1
  | 0 => rfl
  | k + 1 => by
    have h0 : chs (k : Int) (k + 1) = 0 := by rw [chs, Int.sub_self, Int.mul_zero, Int.zero_tdiv]
    have h1 := chs_step (k : Int) k
    rw [show ((k + 1 : Nat) : Int) = (k : Int) + 1 by omega, h1, h0, chs_self k]; rfl

/-- Without its highest difference it has other values. -/
theorem few_other {zs p : List Int} (h : interP zs = some p) {k : Nat} (hk : zc 8 zs = k + 1) : ∃ x, zs[k]? = some x ∧ val (p.take k) k ≠ x := by
  obtain ⟨ht, hv, h7, e, hl, hle, hval⟩ := interP_some h
  obtain ⟨x, hx, hx0, hlt⟩ := zc_lead hk (by omega)
  have hpk : p[k]? = some x := by rw [e, List.getElem?_take_of_lt (by omega)]; exact hx
  refine ⟨zs[k], List.getElem?_eq_getElem hlt, ?_⟩
  have h1 := hval k _ (List.getElem?_eq_getElem hlt)
  have h2 := val_take p k x k hpk
  rw [List.take_of_length_le (by omega), h1, chs_self, Int.mul_one] at h2
  omega

theorem few_valid {p : List Int} (h : validP p = true) {k : Nat} (hk : 0 < k) : validP (p.take k) = true := by
  obtain ⟨h1, h7, hx⟩ := validP_iff.1 h
  exact validP_iff.2 ⟨by rw [List.length_take]; omega, by rw [List.length_take]; omega, fun x hm => hx x (List.mem_of_mem_take hm)⟩

/-- The rows of differences of a table of values. -/
theorem nbrs_tab (F : Int → Int) (a : Int) (n : Nat) : ∀ k, nbrs k (tab n fun i => F (a + i)) = tab (n - k) fun i => dlts k F (a + i)
  | 0 => rfl
  | k + 1 => by
    rw [nbrs, nbrs_tab F a n k]
    by_cases hk : k < n
    · obtain ⟨m, hm⟩ : ∃ m, n - k = m + 1 := ⟨n - k - 1, by omega⟩
      rw [hm, nbr_tab, show n - (k + 1) = m by omega]
      exact tab_congr fun i _ => by
        show dlts k F (a + ((i + 1 : Nat) : Int)) - dlts k F (a + i) = dlts k F (a + i + 1) - dlts k F (a + i)
        rw [show a + ((i + 1 : Nat) : Int) = a + (i : Int) + 1 by omega]
    · rw [show n - k = 0 by omega, show n - (k + 1) = 0 by omega]
      rfl

theorem tab_take (n m : Nat) (f : Nat → Int) (h : m ≤ n) : (tab n f).take m = tab m f := by
  refine List.ext_getElem? fun k => ?_
  by_cases hk : k < m
  · rw [List.getElem?_take_of_lt hk, tab_at _ hk, tab_at _ (by omega)]
  · rw [List.getElem?_take_eq_none (by omega), List.getElem?_eq_none (by rw [tab_length]; omega)]

/-- Interpolation of as many values of a polynomial as it has differences, or more. -/
theorem inter_vals {p : List Int} (hp : validP p = true) {a : Int} {n : Nat} (hn : p.length ≤ n) (ha : inB a 200 = true) (ht : tabV (tab n fun i => val p (a + i)) = true) :
    (interP (tab n fun i => val p (a + i)) = none → shiftP p a = none) ∧ ∀ q s, interP (tab n fun i => val p (a + i)) = some q → shiftP p a = some s → trimP s = q := by
  obtain ⟨zs, hzs⟩ : ∃ zs, zs = tab n fun i => val p (a + i) := ⟨_, rfl⟩
  rw [← hzs] at ht ⊢
  have hp7 := (validP_iff.1 hp).2.1
  have hp1 := (validP_iff.1 hp).1
  have hzl : zs.length = n := by rw [hzs, tab_length]
  have hz0 : allB (nbrs p.length zs) 0 = true := by
    rw [hzs, nbrs_tab (val p) a n p.length]
    refine allB_iff.2 fun x hx => ?_
    obtain ⟨i, _, rfl⟩ := tab_mem hx
    rw [dlts_val, List.drop_length, val_nil]
    omega
  have hm := zc_least 8 zs p.length hz0
  have hsh : shiftP p a = chk ((fd zs).take p.length) := by
    rw [shiftP, hp, ha]
    show chk _ = _
    rw [← fd_vals, ← fd_take, hzs, tab_take _ _ _ hn]
  have hin : interP zs = chk ((fd zs).take (max (zc 8 zs) 1)) := by
    rw [interP, if_pos (by rw [ht]; simp; omega), fd_take]
  have htt : ((fd zs).take p.length).take (max (zc 8 zs) 1) = (fd zs).take (max (zc 8 zs) 1) := by rw [List.take_take, Nat.min_eq_left (by omega)]
  constructor
  · intro h
    cases hs : shiftP p a with
    | none => rfl
    | some s =>
      exfalso
      rw [hsh] at hs
      have hv := (chk_some hs).2
      rw [(chk_some hs).1] at hv
      have := few_valid hv (k := max (zc 8 zs) 1) (by omega)
      rw [htt] at this
      rw [hin, chk_of this] at h
      cases h
  · intro q s hq hs
    rw [hin] at hq
    rw [hsh] at hs
    obtain ⟨e1, _⟩ := chk_some hq
    obtain ⟨e2, hv2⟩ := chk_some hs
    have hl : s.length = p.length := by rw [e2, List.length_take, fd_length]; omega
    have hzero : ∀ k, zc 8 zs ≤ k → k < p.length → s[k]? = some 0 := fun k hk hk' => by
      rw [e2, List.getElem?_take_of_lt hk']
      refine fd_zero ?_ (by omega)
      obtain ⟨d, rfl⟩ : ∃ d, k = zc 8 zs + d := ⟨k - zc 8 zs, by omega⟩
      exact nbrs_zero (zc_zero 8 zs (by omega)) d
    have hstop : trimN s (max (zc 8 zs) 1) = max (zc 8 zs) 1 := by
      rcases Nat.eq_zero_or_pos (zc 8 zs) with h0 | h0
      · rw [h0]; exact trimN_stop (.inl rfl)
      · obtain ⟨m, hm'⟩ : ∃ m, zc 8 zs = m + 1 := ⟨zc 8 zs - 1, by omega⟩
        obtain ⟨x, hx, hx0, _⟩ := zc_lead hm' (by omega)
        rw [show max (zc 8 zs) 1 = m + 1 by omega]
        refine trimN_stop (.inr ?_)
        rw [e2, List.getElem?_take_of_lt (by omega), hx]
        intro h; injection h with h; exact hx0 h
    have htr : ∀ d, max (zc 8 zs) 1 + d ≤ p.length → trimN s (max (zc 8 zs) 1 + d) = max (zc 8 zs) 1 := by
      intro d
      induction d with
      | zero => intro _; exact hstop
      | succ d ih =>
        intro h
        rw [show max (zc 8 zs) 1 + (d + 1) = max (zc 8 zs) 1 + d + 1 by omega, trimN_go (by omega) (hzero _ (by omega) (by omega))]
        exact ih (by omega)
    have := htr (p.length - max (zc 8 zs) 1) (by omega)
    rw [show max (zc 8 zs) 1 + (p.length - max (zc 8 zs) 1) = p.length by omega] at this
    rw [trimP, if_pos hv2, hl, this, e1, e2, htt]

end Go.Proofs.Ytkmblobfamhoiaa
