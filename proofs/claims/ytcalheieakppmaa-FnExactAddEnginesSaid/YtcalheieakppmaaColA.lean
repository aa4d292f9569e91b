/- Plain mathematics of columns: strings of decimal digits. No program in sight. -/
import Derived.Test.YtcalheieakppmaaPureG
namespace Go.Proofs.Ytcalheieakppmaa

def isDig (b : UInt8) : Bool := decide (48 ≤ b.toNat) && decide (b.toNat ≤ 57)

/-- A column: 1 to 12 digits. -/
def colV (c : ByteArray) : Bool := (decide (1 ≤ c.size) && decide (c.size ≤ 12)) && c.data.toList.all isDig

/-- The number that digits show. -/
def dval (l : List UInt8) : Int := l.foldl (fun n b => 10 * n + ((b.toNat : Int) - 48)) 0
def cval (c : ByteArray) : Int := dval c.data.toList

theorem dval_snoc (l : List UInt8) (b : UInt8) : dval (l ++ [b]) = 10 * dval l + ((b.toNat : Int) - 48) := by simp [dval, List.foldl_append]

theorem snoc_ind {α : Type} {P : List α → Prop} (h0 : P []) (hs : ∀ l b, P l → P (l ++ [b])) (l : List α) : P l := by
  have h : ∀ l : List α, P l.reverse := fun l => by
    induction l with
    | nil => exact h0
    | cons a l ih => rw [List.reverse_cons]; exact hs _ _ ih
  have := h l.reverse
  rwa [List.reverse_reverse] at this

/-- The W lowest digits of v. -/
def dig : Nat → Nat → List UInt8
  | 0, _ => []
  | W + 1, v => dig W (v / 10) ++ [UInt8.ofNat (48 + v % 10)]

theorem dig_length : ∀ W v, (dig W v).length = W
  | 0, _ => rfl
  | W + 1, v => by simp [dig, dig_length W]

theorem digit_toNat (v : Nat) : (UInt8.ofNat (48 + v % 10)).toNat = 48 + v % 10 := by
  rw [UInt8.toNat_ofNat']
  omega

theorem dig_isDig : ∀ W v, (dig W v).all isDig = true
  | 0, _ => rfl
  | W + 1, v => by
    simp only [dig, List.all_append, dig_isDig W, List.all_cons, List.all_nil, isDig, digit_toNat]
    simp
    omega

theorem dval_dig : ∀ W v, v < 10 ^ W → dval (dig W v) = (v : Int)
  | 0, v, h => by simp at h; subst h; rfl
  | W + 1, v, h => by
    rw [Nat.pow_succ] at h
    rw [dig, dval_snoc, dval_dig W (v / 10) (by omega), digit_toNat]
    omega

theorem dval_nonneg (l : List UInt8) : l.all isDig = true → 0 ≤ dval l ∧ dval l < ((10 ^ l.length : Nat) : Int) := by
  refine snoc_ind (P := fun l => l.all isDig = true → 0 ≤ dval l ∧ dval l < ((10 ^ l.length : Nat) : Int)) ?_ ?_ l
  · intro _; simp [dval]
  · intro l b ih h
    rw [List.all_append, Bool.and_eq_true] at h
    have h1 := ih h.1
    have h2 := h.2
    simp only [List.all_cons, List.all_nil, Bool.and_true, isDig, Bool.and_eq_true, decide_eq_true_eq] at h2
    rw [dval_snoc, List.length_append, List.length_singleton, Nat.pow_succ]
    push_cast at h1 ⊢
    omega

theorem dig_dval (l : List UInt8) : l.all isDig = true → dig l.length (dval l).toNat = l := by
  refine snoc_ind (P := fun l => l.all isDig = true → dig l.length (dval l).toNat = l) ?_ ?_ l
  · intro _; rfl
  · intro l b ih h
    rw [List.all_append, Bool.and_eq_true] at h
    have h1 := dval_nonneg l h.1
    have h2 := h.2
    simp only [List.all_cons, List.all_nil, Bool.and_true, isDig, Bool.and_eq_true, decide_eq_true_eq] at h2
    have e : (dval (l ++ [b])).toNat = 10 * (dval l).toNat + (b.toNat - 48) := by rw [dval_snoc]; omega
    rw [e, List.length_append, List.length_singleton, dig]
    rw [show (10 * (dval l).toNat + (b.toNat - 48)) / 10 = (dval l).toNat by omega, ih h.1]
    congr 1
    rw [show 48 + (10 * (dval l).toNat + (b.toNat - 48)) % 10 = b.toNat by omega]
    simp

/-- 10 to the power of W. -/
def ten (W : Nat) : Int := ((10 ^ W : Nat) : Int)
theorem ten_pos (W : Nat) : 0 < ten W := by
  have : 0 < 10 ^ W := Nat.pow_pos (by decide)
  unfold ten; omega
theorem ten_succ (W : Nat) : ten (W + 1) = ten W * 10 := by unfold ten; rw [Nat.pow_succ]; push_cast; rfl
theorem ten_zero : ten 0 = 1 := rfl
theorem ten_bd (W : Nat) (h : W ≤ 12) : 1 ≤ ten W ∧ ten W ≤ 1000000000000 := by
  match W, h with
  | 0, _ | 1, _ | 2, _ | 3, _ | 4, _ | 5, _ | 6, _ | 7, _ | 8, _ | 9, _ | 10, _ | 11, _ | 12, _ => decide
  | W + 13, h => omega
theorem ten_even (W : Nat) (h : 1 ≤ W) : ten W / 2 * 2 = ten W ∧ 5 ≤ ten W / 2 := by
  obtain ⟨k, rfl⟩ : ∃ k, W = k + 1 := ⟨W - 1, by omega⟩
  have := ten_pos k
  rw [ten_succ]
  omega

/-- The column of width W that shows x modulo its size. -/
def showC (W : Nat) (x : Int) : ByteArray := ⟨(dig W (x % ten W).toNat).toArray⟩

theorem showC_list (W : Nat) (x : Int) : (showC W x).data.toList = dig W (x % ten W).toNat := by simp [showC]
theorem showC_size (W : Nat) (x : Int) : (showC W x).size = W := by
  show (showC W x).data.size = W
  simp [showC, dig_length]
theorem mod_bd (W : Nat) (x : Int) : 0 ≤ x % ten W ∧ x % ten W < ten W := ⟨Int.emod_nonneg _ (by have := ten_pos W; omega), Int.emod_lt_of_pos _ (ten_pos W)⟩
theorem cval_showC (W : Nat) (x : Int) : cval (showC W x) = x % ten W := by
  have h := mod_bd W x
  rw [cval, showC_list, dval_dig W _ (by unfold ten at h ⊢; omega)]
  omega
theorem colV_showC {W : Nat} (x : Int) (h1 : 1 ≤ W) (h2 : W ≤ 12) : colV (showC W x) = true := by
  rw [colV, showC_size, showC_list, dig_isDig]
  simp [h1, h2]

theorem colV_iff {c : ByteArray} : colV c = true ↔ (1 ≤ c.size ∧ c.size ≤ 12) ∧ c.data.toList.all isDig = true := by
  simp only [colV, Bool.and_eq_true, decide_eq_true_eq]

theorem colV_show {c : ByteArray} (h : colV c = true) : c = showC c.size (cval c) ∧ 0 ≤ cval c ∧ cval c < ten c.size := by
  have hd := (colV_iff.1 h).2
  have hl : c.data.toList.length = c.size := Array.length_toList
  have hv := dval_nonneg _ hd
  rw [hl] at hv
  have hm : cval c % ten c.size = cval c := Int.emod_eq_of_lt hv.1 hv.2
  refine ⟨?_, hv.1, hv.2⟩
  rw [showC, hm]
  have := dig_dval _ hd
  rw [hl] at this
  unfold cval
  rw [this]

theorem showC_congr {W : Nat} {x y : Int} (h : x % ten W = y % ten W) : showC W x = showC W y := by rw [showC, showC, h]
theorem showC_mod (W : Nat) (x : Int) : showC W (x % ten W) = showC W x := showC_congr (Int.emod_emod_of_dvd _ (Int.dvd_refl _))
theorem showC_inj {W : Nat} {x y : Int} (h : showC W x = showC W y) : x % ten W = y % ten W := by rw [← cval_showC, ← cval_showC, h]

/-- What the column of width W that shows x stands for. -/
def sgn (W : Nat) (x : Int) : Int := if x % ten W ≥ ten W / 2 then x % ten W - ten W else x % ten W
def fitsB (n : Int) (W : Nat) : Bool := decide (-(ten W / 2) ≤ n) && decide (n < ten W / 2)

theorem fitsB_iff {n : Int} {W : Nat} : fitsB n W = true ↔ -(ten W / 2) ≤ n ∧ n < ten W / 2 := by simp [fitsB]

theorem sgn_congr {W : Nat} {x y : Int} (h : x % ten W = y % ten W) : sgn W x = sgn W y := by rw [sgn, sgn, h]
theorem sgn_mod (W : Nat) (x : Int) : sgn W x % ten W = x % ten W := by
  unfold sgn
  split
  · rw [Int.sub_emod_right, Int.emod_emod_of_dvd _ (Int.dvd_refl _)]
  · rw [Int.emod_emod_of_dvd _ (Int.dvd_refl _)]
theorem sgn_fits (W : Nat) (x : Int) (h : 1 ≤ W) : fitsB (sgn W x) W = true := by
  have h1 := mod_bd W x
  have h2 := ten_even W h
  rw [fitsB_iff, sgn]
  split <;> omega
theorem sgn_of_fits {W : Nat} {n : Int} (h : 1 ≤ W) (hf : fitsB n W = true) : sgn W n = n := by
  have h2 := ten_even W h
  have h3 := fitsB_iff.1 hf
  rcases Int.lt_or_le n 0 with hn | hn
  · have e : n % ten W = n + ten W := by
      rw [← Int.add_emod_right]
      exact Int.emod_eq_of_lt (by omega) (by omega)
    rw [sgn, e, if_pos (by omega)]
    omega
  · have e : n % ten W = n := Int.emod_eq_of_lt hn (by omega)
    rw [sgn, e, if_neg (by omega)]
theorem sgn_bd {W : Nat} (x : Int) (h1 : 1 ≤ W) (h2 : W ≤ 12) : -500000000000 ≤ sgn W x ∧ sgn W x < 500000000000 := by
  have h := fitsB_iff.1 (sgn_fits W x h1)
  have h3 := ten_bd W h2
  omega
theorem showC_sgn (W : Nat) (x : Int) : showC W (sgn W x) = showC W x := showC_congr (sgn_mod W x)

/-- An engine of width W whose columns show these numbers. -/
def eng (W : Nat) (vs : List Int) : List ByteArray := vs.map (showC W)
theorem eng_length (W : Nat) (vs : List Int) : (eng W vs).length = vs.length := by simp [eng]

def engV (cs : List ByteArray) : Bool := (decide (1 ≤ cs.length) && decide (cs.length ≤ 7)) && cs.all fun c => colV c && decide (c.size = (cs.headD ByteArray.empty).size)

theorem engV_iff {cs : List ByteArray} : engV cs = true ↔ (1 ≤ cs.length ∧ cs.length ≤ 7) ∧ ∀ c ∈ cs, colV c = true ∧ c.size = (cs.headD ByteArray.empty).size := by
  simp [engV]

theorem engV_eng {W : Nat} {vs : List Int} (h1 : 1 ≤ W) (h2 : W ≤ 12) (h3 : 1 ≤ vs.length) (h4 : vs.length ≤ 7) : engV (eng W vs) = true := by
  refine engV_iff.2 ⟨by rw [eng_length]; exact ⟨h3, h4⟩, fun c hc => ?_⟩
  obtain ⟨x, _, rfl⟩ := List.mem_map.1 hc
  refine ⟨colV_showC x h1 h2, ?_⟩
  rw [showC_size]
  cases vs with
  | nil => simp at h3
  | cons v r => simp [eng, showC_size]

theorem engV_some {cs : List ByteArray} (h : engV cs = true) : ∃ W vs, cs = eng W vs ∧ 1 ≤ W ∧ W ≤ 12 ∧ 1 ≤ vs.length ∧ vs.length ≤ 7 ∧ ∀ v ∈ vs, 0 ≤ v ∧ v < ten W := by
  obtain ⟨⟨h1, h7⟩, hc⟩ := engV_iff.1 h
  obtain ⟨W, hW⟩ : ∃ W, W = (cs.headD ByteArray.empty).size := ⟨_, rfl⟩
  rw [← hW] at hc
  have hmem : cs.headD ByteArray.empty ∈ cs := by
    cases cs with
    | nil => simp at h1
    | cons c r => simp
  have hW1 := (colV_iff.1 (hc _ hmem).1).1
  rw [← hW] at hW1
  refine ⟨W, cs.map cval, ?_, hW1.1, hW1.2, by simpa using h1, by simpa using h7, ?_⟩
  · rw [eng, List.map_map]
    have : cs.map (showC W ∘ cval) = cs.map id := List.map_congr_left fun c hcm => by
      have h1 := (colV_show (hc c hcm).1).1
      rw [(hc c hcm).2] at h1
      exact h1.symm
    rw [this, List.map_id]
  · intro v hv
    obtain ⟨c, hcm, rfl⟩ := List.mem_map.1 hv
    have := colV_show (hc c hcm).1
    rw [(hc c hcm).2] at this
    exact this.2

theorem eng_at {W : Nat} {vs : List Int} {k : Nat} {x : Int} (h : vs[k]? = some x) : (eng W vs)[k]? = some (showC W x) := by simp [eng, h]

end Go.Proofs.Ytcalheieakppmaa
