/- Plain mathematics: bounds of values by tables of binomial coefficients; what each of the program's functions on polynomials reckons. -/
import Derived.Test.YtcalheieakppmaaPureB
namespace Go.Proofs.Ytcalheieakppmaa

/-- T bounds the binomial coefficients of all n between -M and M. -/
structure ChTab (M : Int) (T : Nat → Int) : Prop where
  pos : 0 ≤ M
  zero : T 0 = 1
  step : ∀ k : Nat, k < 6 → T k * (M + k) ≤ T (k + 1) * (k + 1)
  nonneg : ∀ k : Nat, k ≤ 6 → 0 ≤ T k

theorem ChTab.bd {M : Int} {T : Nat → Int} (h : ChTab M T) (n : Int) (hn : -M ≤ n) (hn' : n ≤ M) : ∀ k : Nat, k ≤ 6 → -T k ≤ chs n k ∧ chs n k ≤ T k
  | 0, _ => by rw [h.zero]; simp [chs]
  | k + 1, hk => by
    have ih := h.bd n hn hn' k (by omega)
    have hM := h.pos
    have m := mul_bd (chs n k) (n - k) (T k) (M + k) (h.nonneg k (by omega)) ih.1 ih.2 (by omega) (by omega)
    have s := h.step k (by omega)
    rw [chs]
    exact tdiv_bd' _ _ k (by omega) (by omega)

/-- The sum of the entries from j on, c of them. -/
def sumT (T : Nat → Int) : Nat → Nat → Int
  | _, 0 => 0
  | j, c + 1 => T j + sumT T (j + 1) c

theorem ChTab.valF {M : Int} {T : Nat → Int} (h : ChTab M T) (B : Int) (hB : 0 ≤ B) (n : Int) (hn : -M ≤ n) (hn' : n ≤ M) :
    ∀ (p : List Int) (j : Nat), j + p.length ≤ 7 → (∀ x ∈ p, -B ≤ x ∧ x ≤ B) → -(B * sumT T j p.length) ≤ valF j p n ∧ valF j p n ≤ B * sumT T j p.length
  | [], j, _, _ => by simp [Go.Proofs.Ytcalheieakppmaa.valF, sumT]
  | d :: r, j, hl, hx => by
    simp only [List.length_cons] at hl
    have ih := h.valF B hB n hn hn' r (j + 1) (by omega) fun x hx' => hx x (List.mem_cons_of_mem _ hx')
    have hd := hx d List.mem_cons_self
    have hc := h.bd n hn hn' j (by omega)
    have m := mul_bd d (chs n j) B (T j) hB hd.1 hd.2 hc.1 hc.2
    simp only [Go.Proofs.Ytcalheieakppmaa.valF, List.length_cons, sumT, Int.mul_add]
    omega

theorem sumT_mono {M : Int} {T : Nat → Int} (h : ChTab M T) : ∀ (c j : Nat), j + c ≤ 7 → sumT T j c ≤ sumT T j (7 - j)
  | 0, j, _ => by
    have : ∀ c j : Nat, j + c ≤ 7 → 0 ≤ sumT T j c := by
      intro c
      induction c with
      | zero => intro j _; exact Int.le_refl _
      | succ c ih => intro j hj; have := h.nonneg j (by omega); have := ih (j + 1) (by omega); simp only [sumT]; omega
    exact this _ _ (by omega)
  | c + 1, j, hj => by
    have ih := sumT_mono h c (j + 1) (by omega)
    rw [show 7 - j = (7 - (j + 1)) + 1 from by omega]
    simp only [sumT]
    omega

theorem ChTab.val {M : Int} {T : Nat → Int} (h : ChTab M T) (B : Int) (hB : 0 ≤ B) (n : Int) (hn : -M ≤ n) (hn' : n ≤ M) (p : List Int) (hl : p.length ≤ 7) (hx : ∀ x ∈ p, -B ≤ x ∧ x ≤ B) :
    -(B * sumT T 0 7) ≤ val p n ∧ val p n ≤ B * sumT T 0 7 := by
  have h1 := h.valF B hB n hn hn' p 0 (by omega) hx
  have h2 := sumT_mono h p.length 0 (by omega)
  have h3 := Int.mul_le_mul_of_nonneg_left h2 hB
  unfold Go.Proofs.Ytcalheieakppmaa.val
  simp only [Nat.sub_zero] at h3
  omega

def ch60 : Nat → Int
  | 0 => 1
  | 1 => 60
  | 2 => 1830
  | 3 => 37820
  | 4 => 595665
  | 5 => 7624512
  | _ => 82598880
def ch10 : Nat → Int
  | 0 => 1
  | 1 => 10
  | 2 => 55
  | 3 => 220
  | 4 => 715
  | 5 => 2002
  | _ => 5005

theorem ch60_tab : ChTab 60 ch60 := ⟨by decide, rfl, by decide, by decide⟩
theorem ch10_tab : ChTab 10 ch10 := ⟨by decide, rfl, by decide, by decide⟩

theorem val60 {p : List Int} (hv : validP p = true) {n : Int} (hn : -60 ≤ n) (hn' : n ≤ 60) : -10000000000000 ≤ val p n ∧ val p n ≤ 10000000000000 := by
  obtain ⟨_, h2, h3⟩ := validP_iff.1 hv
  have h := ch60_tab.val 100000 (by decide) n hn hn' p h2 h3
  have e : sumT ch60 0 7 = 90858768 := by decide
  rw [e] at h
  omega
theorem val10 {p : List Int} (hv : validP p = true) {n : Int} (hn : -10 ≤ n) (hn' : n ≤ 10) : -1000000000 ≤ val p n ∧ val p n ≤ 1000000000 := by
  obtain ⟨_, h2, h3⟩ := validP_iff.1 hv
  have h := ch10_tab.val 100000 (by decide) n hn hn' p h2 h3
  have e : sumT ch10 0 7 = 8008 := by decide
  rw [e] at h
  omega

def ch6 : Nat → Int
  | 0 => 1
  | 1 => 6
  | 2 => 21
  | 3 => 56
  | 4 => 126
  | 5 => 252
  | _ => 462
theorem ch6_tab : ChTab 6 ch6 := ⟨by decide, rfl, by decide, by decide⟩
theorem val6 {p : List Int} (hv : validP p = true) (n : Nat) (hn : n ≤ 6) : -100000000 ≤ val p n ∧ val p n ≤ 100000000 := by
  obtain ⟨_, h2, h3⟩ := validP_iff.1 hv
  have h := ch6_tab.val 100000 (by decide) n (by omega) (by omega) p h2 h3
  have e : sumT ch6 0 7 = 924 := by decide
  rw [e] at h
  omega

def ch210 : Nat → Int
  | 0 => 1
  | 1 => 210
  | 2 => 22155
  | 3 => 1565620
  | 4 => 83369265
  | 5 => 3568204542
  | _ => 127860662755
theorem ch210_tab : ChTab 210 ch210 := ⟨by decide, rfl, by decide, by decide⟩
theorem val210 {p : List Int} (hv : validP p = true) {n : Int} (hn : -210 ≤ n) (hn' : n ≤ 210) : -31000000000000000 ≤ val p n ∧ val p n ≤ 31000000000000000 := by
  obtain ⟨_, h2, h3⟩ := validP_iff.1 hv
  have h := ch210_tab.val 100000 (by decide) n hn hn' p h2 h3
  have e : sumT ch210 0 7 = 131513824548 := by decide
  rw [e] at h
  omega

/-- A list of n numbers, the i-th being f i. -/
def tab (n : Nat) (f : Nat → Int) : List Int := (List.range n).map f
theorem tab_length (n : Nat) (f : Nat → Int) : (tab n f).length = n := by simp [tab]
theorem tab_at {n : Nat} (f : Nat → Int) {k : Nat} (h : k < n) : (tab n f)[k]? = some (f k) := by simp [tab, h]
theorem tab_mem {n : Nat} {f : Nat → Int} {x : Int} (h : x ∈ tab n f) : ∃ i, i < n ∧ f i = x := by simpa [tab] using h
theorem tab_congr {n : Nat} {f g : Nat → Int} (h : ∀ i, i < n → f i = g i) : tab n f = tab n g := by
  unfold tab
  exact List.map_congr_left fun i hi => h i (by simpa using hi)
theorem tab_drop_eq (p : List Int) : tab p.length (fun k => p.getD k 0) = p := by
  apply List.ext_getElem?
  intro k
  by_cases h : k < p.length
  · rw [tab_at _ h, List.getElem?_eq_getElem h]; simp [h]
  · rw [List.getElem?_eq_none (by rw [tab_length]; omega), List.getElem?_eq_none (by omega)]

theorem nbrs_small {zs : List Int} {B : Int} (hB : 0 ≤ B) (hl : zs.length ≤ 7) (hb : B * 64 ≤ 2000000000000000000) (h : ∀ x ∈ zs, -B ≤ x ∧ x ≤ B) :
    ∀ k, k < zs.length → ∀ x ∈ nbrs k zs, -2000000000000000000 ≤ x ∧ x ≤ 2000000000000000000 := by
  intro k hk x hx
  have h1 := nbrs_bd zs B h k x hx
  have h2 : (2 : Int) ^ k * B ≤ 64 * B := by
    refine Int.mul_le_mul_of_nonneg_right ?_ hB
    match k, (by omega : k ≤ 6) with
    | 0, _ | 1, _ | 2, _ | 3, _ | 4, _ | 5, _ | 6, _ => decide
    | k + 7, h => omega
  omega

def evl (p : List Int) (n : Int) : Int := if validP p && inB n 200 then val p n else 0
def shiftP (p : List Int) (n : Int) : Option (List Int) := if validP p && inB n 200 then chk (tab p.length fun k => val (p.drop k) n) else none
def sumP (p : List Int) (c : Int) : Option (List Int) := if validP p then chk (c :: p) else none
def diffP (p : List Int) : List Int := if validP p then (if p.length = 1 then [0] else p.drop 1) else []
def addP (p q : List Int) : Option (List Int) := if validP p && validP q then chk (tab (max p.length q.length) fun k => p.getD k 0 + q.getD k 0) else none
def scaleP (p : List Int) (k : Int) : Option (List Int) := if validP p && inB k 100000 then chk (p.map (· * k)) else none
def mulP (p q : List Int) : Option (List Int) :=
  if validP p && (validP q && decide (p.length + q.length - 1 ≤ 7)) then chk (fd (tab (p.length + q.length - 1) fun n => val p n * val q n)) else none
def stepP (p : List Int) (m : Int) : Option (List Int) := if validP p && (decide (1 ≤ m) && decide (m ≤ 10)) then chk (fd (tab p.length fun n => val p (m * n))) else none
def turnP (p : List Int) : Option (List Int) := if validP p then chk (fd (tab p.length fun n => val p (-n))) else none

end Go.Proofs.Ytcalheieakppmaa
