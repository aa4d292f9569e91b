/- Numerals: what a canonical numeral looks like, and that it is read back. -/
import Derived.Test.YtinhcdppdnmlgaaDoorTxB
import Derived.Test.YtinhcdppdnmlgaaDoorGrA
import Derived.Test.YtinhcdppdnmlgaaDoorTxS
import Derived.Lib.Atoi
import Derived.Lib.AtoiBound
namespace Go.Proofs.YtinhcdppdnmlgaaDoor
open Go.RowKit
set_option maxRecDepth 4000

theorem dd_small {u : Nat} (h : u < 10) : Lib.decDigits u = [UInt8.ofNat (48 + u)] := Lib.decDigits_one h
theorem dd_big {u : Nat} (h : ¬ u < 10) : Lib.decDigits u = Lib.decDigits (u / 10) ++ [UInt8.ofNat (48 + u % 10)] := by rw [Lib.decDigits, dif_neg h]
theorem ofNat_toNat {x : Nat} (h : x < 256) : (UInt8.ofNat x).toNat = x := by simp; omega
theorem isDig_dig {x : Nat} (h : x < 10) : isDig (UInt8.ofNat (48 + x)) = true := by
  have := ofNat_toNat (x := 48 + x) (by omega)
  simp only [isDig, this]
  simp; omega
theorem dd_facts (u : Nat) : Lib.decDigits u ≠ [] ∧ (Lib.decDigits u).all isDig = true ∧ dval (Lib.decDigits u) = (u : Int) := by
  induction u using Nat.strongRecOn with
  | _ u ih =>
    by_cases h : u < 10
    · rw [dd_small h]
      have h2 := ofNat_toNat (x := 48 + u) (by omega)
      refine ⟨by simp, by rw [List.all_cons, isDig_dig h]; rfl, ?_⟩
      simp only [dval, List.foldl_cons, List.foldl_nil, h2]
      omega
    · obtain ⟨h1, h2, h3⟩ := ih (u / 10) (by omega)
      rw [dd_big h]
      refine ⟨by simp, ?_, ?_⟩
      · rw [List.all_append, h2, List.all_cons, isDig_dig (show u % 10 < 10 by omega)]; rfl
      · rw [dval_snoc, h3, ofNat_toNat (by omega)]; omega
theorem dd_head (u : Nat) (h1 : 1 ≤ u) : ∃ b r, Lib.decDigits u = b :: r ∧ b ≠ 48 := by
  induction u using Nat.strongRecOn with
  | _ u ih =>
    by_cases h : u < 10
    · refine ⟨_, _, dd_small h, ?_⟩
      intro e
      have := congrArg UInt8.toNat e
      rw [ofNat_toNat (by omega)] at this
      have h48 : (48 : UInt8).toNat = 48 := rfl
      omega
    · obtain ⟨b, r, hb, hne⟩ := ih (u / 10) (by omega) (by omega)
      exact ⟨b, r ++ [UInt8.ofNat (48 + u % 10)], by rw [dd_big h, hb]; rfl, hne⟩
theorem dd_len (k : Nat) : ∀ u, u < 10 ^ (k + 1) → (Lib.decDigits u).length ≤ k + 1 := by
  induction k with
  | zero => intro u h; rw [dd_small (by simpa using h)]; simp
  | succ k ih =>
    intro u h
    by_cases h2 : u < 10
    · rw [dd_small h2]; simp
    · rw [dd_big h2, List.length_append, List.length_singleton]
      have := ih (u / 10) (by rw [Nat.pow_succ] at h; omega)
      omega
theorem dd_zero : Lib.decDigits 0 = [48] := dd_small (by decide)
theorem isDig_ne {b c : UInt8} (h : isDig b = true) (hc : isDig c = false) : b ≠ c := by rintro rfl; rw [h] at hc; cases hc

theorem itoa_nat (u : Nat) : Lib.itoa (u : Int) = Lib.decDigits u := Lib.itoa_nonneg u
theorem itoa_minus (u : Nat) (h : 1 ≤ u) : Lib.itoa (-(u : Int)) = 45 :: Lib.decDigits u := Lib.itoa_neg u h
theorem int_cases (n : Int) : (∃ u : Nat, n = u) ∨ ∃ u : Nat, 1 ≤ u ∧ n = -(u : Int) := by
  rcases Int.lt_or_le n 0 with h | h
  · exact .inr ⟨n.natAbs, by omega, by omega⟩
  · exact .inl ⟨n.toNat, by omega⟩

/-- No numeral holds a blank. -/
theorem itoa_plain (n : Int) : ∀ b ∈ Lib.itoa n, b ≠ 32 := by
  have hd : ∀ u, ∀ b ∈ Lib.decDigits u, b ≠ 32 := fun u b hb => isDig_ne (List.all_eq_true.1 (dd_facts u).2.1 b hb) (by decide)
  rcases int_cases n with ⟨u, rfl⟩ | ⟨u, h1, rfl⟩
  · rw [itoa_nat]; exact hd u
  · rw [itoa_minus u h1]
    intro b hb
    rcases List.mem_cons.1 hb with rfl | hb
    · decide
    · exact hd u b hb

theorem digitVal_dig {b : UInt8} (h : isDig b = true) : Lib.digitVal b = some (b.toNat - 48) := by
  simp only [isDig, Bool.and_eq_true, decide_eq_true_eq] at h
  rw [Lib.digitVal, if_pos h]
theorem decFrom_snoc (l : List UInt8) (b : UInt8) (acc n : Nat) (h : Lib.decFrom acc l = some n) (hb : isDig b = true) : Lib.decFrom acc (l ++ [b]) = some (n * 10 + (b.toNat - 48)) := by
  induction l generalizing acc with
  | nil =>
    simp only [Lib.decFrom, Option.some.injEq] at h
    subst h
    simp only [List.nil_append, Lib.decFrom, digitVal_dig hb]
  | cons a r ih =>
    simp only [List.cons_append, Lib.decFrom] at h ⊢
    cases hd : Lib.digitVal a with
    | none => rw [hd] at h; cases h
    | some d => rw [hd] at h; exact ih _ h
theorem decFrom_dd (u : Nat) : Lib.decFrom 0 (Lib.decDigits u) = some u := by
  induction u using Nat.strongRecOn with
  | _ u ih =>
    by_cases h : u < 10
    · rw [dd_small h]
      have := decFrom_snoc [] (UInt8.ofNat (48 + u)) 0 0 rfl (isDig_dig h)
      rw [ofNat_toNat (by omega)] at this
      rw [show ([] : List UInt8) ++ [UInt8.ofNat (48 + u)] = [UInt8.ofNat (48 + u)] from rfl] at this
      rw [this]; congr 1; omega
    · rw [dd_big h, decFrom_snoc _ _ _ _ (ih (u / 10) (by omega)) (isDig_dig (by omega)), ofNat_toNat (by omega)]
      congr 1; omega
theorem decNat_dd (u : Nat) : Lib.decNat (Lib.decDigits u) = some u := by
  have h := (dd_facts u).1
  have he : (Lib.decDigits u).isEmpty = false := by cases hx : Lib.decDigits u with | nil => exact absurd hx h | cons a r => rfl
  rw [Lib.decNat, he]
  exact decFrom_dd u
/-- A numeral is read back. -/
theorem atoi_itoa (n : Int) : Lib.atoi (Lib.itoa n) = some n := by
  rcases int_cases n with ⟨u, rfl⟩ | ⟨u, h1, rfl⟩
  · rw [itoa_nat]
    cases hl : Lib.decDigits u with
    | nil => exact absurd hl (dd_facts u).1
    | cons b r =>
      have hb : isDig b = true := List.all_eq_true.1 (dd_facts u).2.1 b (by rw [hl]; exact List.mem_cons_self ..)
      have h45 : (b == 45) = false := by simpa using isDig_ne hb (c := 45) (by decide)
      have h43 : (b == 43) = false := by simpa using isDig_ne hb (c := 43) (by decide)
      rw [Lib.atoi, h45, h43, ← hl, decNat_dd]; rfl
  · rw [itoa_minus u h1, Lib.atoi, decNat_dd]; rfl
theorem itoa_inj {m n : Int} (h : Lib.itoa m = Lib.itoa n) : m = n := by
  have := atoi_itoa m
  rw [h, atoi_itoa] at this
  exact (Option.some.inj this).symm
theorem numB_data (n : Int) : (numB n).data.toList = Lib.itoa n := data_txt _
theorem numB_inj {m n : Int} (h : numB m = numB n) : m = n := itoa_inj (by rw [← numB_data, ← numB_data, h])
theorem numsB_inj {p q : List Int} (hp : p ≠ []) (hq : q ≠ []) (h : numsB p = numsB q) : p = q := by
  have e : ∀ r : List Int, r ≠ [] → cutL (numsB r).data.toList = r.map Lib.itoa := by
    intro r hr
    rw [numsB, joinB, data_txt, List.map_map, cut_join _ (by simpa using hr) (by
      intro x hx b hb
      obtain ⟨n, _, rfl⟩ := List.mem_map.1 hx
      exact itoa_plain n b (by rw [← numB_data]; exact hb))]
    exact List.map_congr_left fun n _ => numB_data n
  have h2 := e p hp
  rw [h, e q hq] at h2
  exact ((List.map_inj_right (fun _ _ => itoa_inj)).1 h2).symm
theorem cutB_nums {p : List Int} (hp : p ≠ []) : cutB (numsB p) = p.map numB := by
  rw [cutB, numsB, joinB, data_txt, cut_join _ (by simpa using hp) (by
      intro x hx b hb
      obtain ⟨c, hc, rfl⟩ := List.mem_map.1 hx
      obtain ⟨n, _, rfl⟩ := List.mem_map.1 hc
      exact itoa_plain n b (by rw [← numB_data]; exact hb)), List.map_map]
  conv => rhs; rw [← List.map_id (p.map numB)]
  apply List.map_congr_left
  intro x _
  exact txt_data x

/-- The polynomial of a text: the valid one whose text it is. -/
def IsP (s : ByteArray) (p : List Int) : Prop := validP p = true ∧ numsB p = s
theorem valid_ne {p : List Int} (h : validP p = true) : p ≠ [] := by
  have := (validP_iff.1 h).1
  intro e; subst e; simp at this
theorem IsP.uniq {s : ByteArray} {p q : List Int} (h : IsP s p) (k : IsP s q) : p = q := numsB_inj (valid_ne h.1) (valid_ne k.1) (h.2.trans k.2.symm)
open Classical in
noncomputable def polyF (s : ByteArray) : Option (List Int) := if h : ∃ p, IsP s p then some (Classical.choose h) else none
theorem polyF_some {s : ByteArray} {p : List Int} (h : IsP s p) : polyF s = some p := by
  have hx : ∃ p, IsP s p := ⟨p, h⟩
  rw [polyF, dif_pos hx, (Classical.choose_spec hx).uniq h]
theorem polyF_none {s : ByteArray} (h : ∀ p, ¬ IsP s p) : polyF s = none := by
  rw [polyF, dif_neg (fun ⟨p, hp⟩ => h p hp)]
theorem polyF_is {s : ByteArray} {p : List Int} (h : polyF s = some p) : IsP s p := by
  unfold polyF at h
  split at h
  · rename_i hx; injection h with h; subst h; exact Classical.choose_spec hx
  · cases h
theorem polyF_length {s : ByteArray} {z : List Int} (h : (polyF s).getD [] = z) : z.length ≤ 1048576 := by
  cases hp : polyF s with
  | none => rw [hp] at h; simp at h; subst h; simp
  | some p => rw [hp] at h; simp at h; subst h; have := (validP_iff.1 (polyF_is hp).1).2.1; omega

/-- A small canonical numeral, the sign apart. -/
theorem numB_parts {n : Int} {s : ByteArray} (h0 : -100000 ≤ n) (h1 : n ≤ 100000) (h : numB n = s) :
    (∃ u : Nat, u ≤ 100000 ∧ n = u ∧ s.data.toList = Lib.decDigits u) ∨ ∃ u : Nat, 1 ≤ u ∧ u ≤ 100000 ∧ n = -(u : Int) ∧ s.data.toList = 45 :: Lib.decDigits u := by
  have hs : s.data.toList = Lib.itoa n := by rw [← h, numB_data]
  rcases int_cases n with ⟨u, rfl⟩ | ⟨u, hu, rfl⟩
  · exact .inl ⟨u, by omega, rfl, by rw [hs, itoa_nat]⟩
  · exact .inr ⟨u, hu, by omega, rfl, by rw [hs, itoa_minus u hu]⟩
theorem dd_first {u : Nat} {b : UInt8} {r : List UInt8} (h : Lib.decDigits u = b :: r) : isDig b = true := List.all_eq_true.1 (dd_facts u).2.1 b (by rw [h]; exact List.mem_cons_self ..)
/-- What l9Num's first result must be. -/
def Num9 (s : ByteArray) (v : Int) : Prop := ∀ n : Int, -100000 ≤ n → n ≤ 100000 → numB n = s → v = n
/-- The digits d, and whether a sign stands ahead of them, of a small canonical numeral. -/
theorem num_digits {n : Int} {s : ByteArray} {d : List UInt8} {neg : Bool} (h0 : -100000 ≤ n) (h1 : n ≤ 100000) (h : numB n = s) (hn : neg = true → s.data.toList = 45 :: d) (hp : neg = false → s.data.toList = d ∧ d.head? ≠ some 45) :
    ∃ u : Nat, u ≤ 100000 ∧ d = Lib.decDigits u ∧ n = (if neg = true then -(u : Int) else (u : Int)) ∧ (neg = true → 1 ≤ u) := by
  rcases numB_parts h0 h1 h with ⟨u, hu, rfl, hs⟩ | ⟨u, hu1, hu, rfl, hs⟩
  · cases neg
    · have := (hp rfl).1
      exact ⟨u, hu, by rw [← this, hs], by simp, by simp⟩
    · exfalso
      have := hn rfl
      rw [hs] at this
      have h2 := dd_first this
      exact absurd h2 (by decide)
  · cases neg
    · exfalso
      obtain ⟨h2, h3⟩ := hp rfl
      rw [hs] at h2
      rw [← h2] at h3
      exact h3 rfl
    · have := hn rfl
      rw [hs] at this
      injection this with _ this
      exact ⟨u, hu, this.symm, by simp, fun _ => hu1⟩
section
variable {s : ByteArray} {d : List UInt8} {neg : Bool} (hn : neg = true → s.data.toList = 45 :: d) (hp : neg = false → s.data.toList = d ∧ d.head? ≠ some 45)
include hn hp
theorem num9_empty (h : d = []) (v : Int) : Num9 s v := by
  intro n h0 h1 e
  obtain ⟨u, _, hd, _⟩ := num_digits h0 h1 e hn hp
  rw [h] at hd
  exact absurd hd.symm (dd_facts u).1
theorem num9_long (h : 17 < d.length) (v : Int) : Num9 s v := by
  intro n h0 h1 e
  obtain ⟨u, hu, hd, _⟩ := num_digits h0 h1 e hn hp
  have := dd_len 5 u (by omega)
  rw [← hd] at this; omega
theorem num9_zero (h : d.head? = some 48) (h2 : 1 < d.length ∨ neg = true) (v : Int) : Num9 s v := by
  intro n h0 h1 e
  obtain ⟨u, hu, hd, _, h3⟩ := num_digits h0 h1 e hn hp
  rcases Nat.eq_zero_or_pos u with h4 | h4
  · subst h4
    rw [dd_zero] at hd
    rcases h2 with h2 | h2
    · rw [hd] at h2; simp at h2
    · have := h3 h2; omega
  · obtain ⟨b, r, hb, hne⟩ := dd_head u h4
    rw [hd, hb] at h
    simp at h
    exact absurd h hne
theorem num9_bad {b : UInt8} {k : Nat} (h : d[k]? = some b) (hb : isDig b = false) (v : Int) : Num9 s v := by
  intro n h0 h1 e
  obtain ⟨u, hu, hd, _⟩ := num_digits h0 h1 e hn hp
  have := List.all_eq_true.1 (dd_facts u).2.1 b (by rw [← hd]; exact List.mem_of_getElem? h)
  rw [hb] at this; cases this
theorem num9_good {v : Int} (h : v = if neg = true then -(dval d) else dval d) : Num9 s v := by
  intro n h0 h1 e
  obtain ⟨u, hu, hd, hv, _⟩ := num_digits h0 h1 e hn hp
  rw [h, hv, hd, (dd_facts u).2.2]
end

/-- What parseNumber returns. -/
def numF (s : ByteArray) : Option Int := if 17 < (Lib.trimPrefix s.data.toList [45]).length then none else match Lib.atoi s.data.toList with
  | none => none
  | some n => if numB n = s then some n else none
theorem numF_is {s : ByteArray} {n : Int} (h : numF s = some n) : numB n = s := by
  unfold numF at h
  split at h
  · cases h
  · split at h
    · cases h
    · split at h
      · injection h with h; subst h; assumption
      · cases h
theorem numF_small {n : Int} (h0 : -100000 ≤ n) (h1 : n ≤ 100000) : numF (numB n) = some n := by
  have hl : ¬ 17 < (Lib.trimPrefix (numB n).data.toList [45]).length := by
    have h2 : (Lib.trimPrefix (numB n).data.toList [45]).length ≤ (numB n).data.toList.length := by
      unfold Lib.trimPrefix; split
      · rw [List.length_drop]; omega
      · exact Nat.le_refl _
    have h3 : (numB n).data.toList.length ≤ 7 := by
      rcases numB_parts h0 h1 rfl with ⟨u, hu, _, hs⟩ | ⟨u, _, hu, _, hs⟩
      · have := dd_len 5 u (by omega); rw [hs]; omega
      · have := dd_len 5 u (by omega); rw [hs]; simp; omega
    omega
  rw [numF, if_neg hl, numB_data, atoi_itoa]
  simp
theorem trim_len (l : List UInt8) : l.length ≤ (Lib.trimPrefix l [45]).length + 1 := by
  unfold Lib.trimPrefix; split
  · rw [List.length_drop]; simp; omega
  · omega

end Go.Proofs.YtinhcdppdnmlgaaDoor
