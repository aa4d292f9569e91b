/- Columns as lists of digits: turning without carries, the wheels that pass from 9 to 0, and how often carries follow. -/
import Derived.Test.YtinhcdppdnmlgaaTxP
import Derived.Test.YtinhcdppdnmlgaaGrD
import Derived.Lib.Bytealg
namespace Go.Proofs.Ytinhcdppdnmlgaa
open Go.RowKit
set_option maxRecDepth 4000

/-- The string of these digits. -/
def dstr (ds : List Nat) : ByteArray := txt (ds.map fun d => UInt8.ofNat (48 + d))
/-- The digits of a string. -/
def digs (s : ByteArray) : List Nat := s.data.toList.map fun b => b.toNat - 48
def Le (m : Nat) (ds : List Nat) : Prop := ∀ d ∈ ds, d ≤ m
theorem dstr_size (ds : List Nat) : (dstr ds).size = ds.length := by rw [dstr, txt_size, List.length_map]
theorem dstr_data (ds : List Nat) : (dstr ds).data.toList = ds.map fun d => UInt8.ofNat (48 + d) := data_txt _
theorem u8_toNat {x : Nat} (h : x < 256) : (UInt8.ofNat x).toNat = x := by simp; omega
theorem dstr_at {ds : List Nat} {i d : Nat} (h : ds[i]? = some d) (hd : d ≤ 9) (hi : i < (dstr ds).size) : (((dstr ds)[i]).toNat : Int) = 48 + d := by
  have h1 := str_at (dstr ds) i hi
  rw [dstr_data, List.getElem?_map, h, Option.map_some, Option.some.injEq] at h1
  rw [← h1, u8_toNat (by omega)]; omega
theorem Le.at_ {m : Nat} {ds : List Nat} (h : Le m ds) {i d : Nat} (hi : ds[i]? = some d) : d ≤ m := h d (List.mem_of_getElem? hi)
theorem dstr_digs {s : ByteArray} (h : colV s = true) : dstr (digs s) = s ∧ (digs s).length = s.size ∧ Le 9 (digs s) := by
  have hd := (colV_iff.1 h).2
  refine ⟨?_, by rw [digs, List.length_map, str_len], ?_⟩
  · rw [dstr, digs, List.map_map]
    have e : s.data.toList.map ((fun d => UInt8.ofNat (48 + d)) ∘ fun b => b.toNat - 48) = s.data.toList := by
      conv => rhs; rw [← List.map_id s.data.toList]
      apply List.map_congr_left
      intro b hb
      have h1 := List.all_eq_true.1 hd b hb
      simp only [isDig, Bool.and_eq_true, decide_eq_true_eq] at h1
      apply UInt8.toNat_inj.1
      show (UInt8.ofNat (48 + (b.toNat - 48))).toNat = b.toNat
      rw [u8_toNat (by omega)]; omega
    rw [e, txt_data]
  · intro d hd2
    obtain ⟨b, hb, rfl⟩ := List.mem_map.1 hd2
    have h1 := List.all_eq_true.1 hd b hb
    simp only [isDig, Bool.and_eq_true, decide_eq_true_eq] at h1
    omega
theorem colV_dstr {ds : List Nat} (h1 : 1 ≤ ds.length) (h12 : ds.length ≤ 12) (hd : Le 9 ds) : colV (dstr ds) = true := by
  refine colV_iff.2 ⟨by rw [dstr_size]; exact ⟨h1, h12⟩, ?_⟩
  rw [List.all_eq_true]
  intro b hb
  rw [dstr_data] at hb
  obtain ⟨d, hd2, rfl⟩ := List.mem_map.1 hb
  have := hd d hd2
  have h2 := u8_toNat (x := 48 + d) (by omega)
  simp only [isDig, h2]
  simp; omega

def turnL (a b : List Nat) : List Nat := List.zipWith (fun x y => (x + y) % 10) a b
def warnL (a b : List Nat) : List Nat := List.zipWith (fun x y => (x + y) / 10) a b
def upL (w : List Nat) : List Nat := w.drop 1 ++ [0]
theorem turnL_length {a b : List Nat} (h : b.length = a.length) : (turnL a b).length = a.length := by rw [turnL, List.length_zipWith]; omega
theorem warnL_length {a b : List Nat} (h : b.length = a.length) : (warnL a b).length = a.length := by rw [warnL, List.length_zipWith]; omega
theorem upL_length {w : List Nat} (h : 1 ≤ w.length) : (upL w).length = w.length := by rw [upL, List.length_append, List.length_drop]; simp; omega
theorem turnL_at {a b : List Nat} {i x y : Nat} (hx : a[i]? = some x) (hy : b[i]? = some y) : (turnL a b)[i]? = some ((x + y) % 10) := by
  rw [turnL, List.getElem?_zipWith, hx, hy]
theorem warnL_at {a b : List Nat} {i x y : Nat} (hx : a[i]? = some x) (hy : b[i]? = some y) : (warnL a b)[i]? = some ((x + y) / 10) := by
  rw [warnL, List.getElem?_zipWith, hx, hy]
theorem zip_mem {f : Nat → Nat → Nat} {a b : List Nat} {d : Nat} (h : d ∈ List.zipWith f a b) : ∃ x ∈ a, ∃ y ∈ b, d = f x y := by
  induction a generalizing b with
  | nil => simp at h
  | cons x a ih =>
    cases b with
    | nil => simp at h
    | cons y b =>
      rw [List.zipWith_cons_cons, List.mem_cons] at h
      rcases h with rfl | h
      · exact ⟨x, List.mem_cons_self .., y, List.mem_cons_self .., rfl⟩
      · obtain ⟨x', hx, y', hy, e⟩ := ih h
        exact ⟨x', List.mem_cons_of_mem _ hx, y', List.mem_cons_of_mem _ hy, e⟩
theorem turnL_le (a b : List Nat) : Le 9 (turnL a b) := fun d hd => by
  obtain ⟨x, _, y, _, rfl⟩ := zip_mem hd; omega
theorem warnL_le {a b : List Nat} (ha : Le 9 a) (hb : Le 9 b) : Le 1 (warnL a b) := fun d hd => by
  obtain ⟨x, hx, y, hy, rfl⟩ := zip_mem hd
  have := ha x hx; have := hb y hy; omega
theorem upL_le {m : Nat} {w : List Nat} (h : Le m w) : Le m (upL w) := fun d hd => by
  rw [upL, List.mem_append] at hd
  rcases hd with hd | hd
  · exact h d (List.mem_of_mem_drop hd)
  · simp at hd; omega
theorem upL_at {w : List Nat} {i x : Nat} (h : w[i + 1]? = some x) : (upL w)[i]? = some x := by
  have hi := (List.getElem?_eq_some_iff.1 h).1
  rw [upL, List.getElem?_append_left (by rw [List.length_drop]; omega), List.getElem?_drop, Nat.add_comm]; exact h
theorem upL_last {w : List Nat} {n : Nat} (h : w.length = n + 1) : (upL w)[n]? = some 0 := by
  rw [upL, List.getElem?_append_right (by rw [List.length_drop]; omega), List.length_drop, h]
  simp
theorem Le.mono {m k : Nat} {ds : List Nat} (h : Le m ds) (hk : m ≤ k) : Le k ds := fun d hd => Nat.le_trans (h d hd) hk

/-- All marks are 0. -/
def noMark (w : List Nat) : Bool := w.all (· == 0)
theorem noMark_iff {w : List Nat} : noMark w = true ↔ ∀ d ∈ w, d = 0 := by simp [noMark]
/-- How often carries follow, in at most so many rounds. -/
def timesN : Nat → List Nat → List Nat → Nat
  | 0, _, _ => 0
  | n + 1, c, w => if noMark w = true then 0 else 1 + timesN n (turnL c (upL w)) (warnL c (upL w))
theorem timesN_done {n : Nat} {c w : List Nat} (h : noMark w = true) : timesN n c w = 0 := by
  cases n with
  | zero => rfl
  | succ n => rw [timesN, if_pos h]
theorem timesN_more {n : Nat} {c w : List Nat} (h : noMark w = false) : timesN (n + 1) c w = 1 + timesN n (turnL c (upL w)) (warnL c (upL w)) := by
  rw [timesN, if_neg (by rw [h]; simp)]
theorem timesN_le (n : Nat) (c w : List Nat) : timesN n c w ≤ n := by
  induction n generalizing c w with
  | zero => exact Nat.le_refl _
  | succ n ih =>
    rw [timesN]
    split
    · omega
    · have := ih (turnL c (upL w)) (warnL c (upL w)); omega
/-- Where a carry is under way: k rounds are done, the marks' last k places are 0. -/
def CarS (W T k : Nat) (c w : List Nat) : Prop := c.length = W ∧ w.length = W ∧ Le 9 c ∧ Le 1 w ∧ k ≤ W ∧ k + timesN (W - k) c w = T ∧ ∀ i d, W - k ≤ i → w[i]? = some d → d = 0
theorem CarS.end_ {W T k : Nat} {c w : List Nat} (h : CarS W T k c w) (hw : noMark w = true) : k = T := by
  have := h.2.2.2.2.2.1
  rw [timesN_done hw] at this; omega
theorem CarS.lt {W T k : Nat} {c w : List Nat} (h : CarS W T k c w) (hw : noMark w = false) : k < W := by
  obtain ⟨_, hl, _, _, hk, _, hz⟩ := h
  rcases Nat.lt_or_ge k W with h1 | h1
  · exact h1
  · exfalso
    have : noMark w = true := noMark_iff.2 fun d hd => by
      obtain ⟨i, hi⟩ := List.mem_iff_getElem?.1 hd
      exact hz i d (by omega) hi
    rw [hw] at this; cases this
theorem CarS.next {W T k : Nat} {c w : List Nat} (h : CarS W T k c w) (hw : noMark w = false) : CarS W T (k + 1) (turnL c (upL w)) (warnL c (upL w)) := by
  have hlt := h.lt hw
  obtain ⟨hc, hl, h9, h1, hk, ht, hz⟩ := h
  have hu := upL_length (w := w) (by omega)
  refine ⟨by rw [turnL_length (by omega)]; exact hc, by rw [warnL_length (by omega)]; exact hc, turnL_le _ _, warnL_le h9 ((upL_le h1).mono (by omega)), hlt, ?_, ?_⟩
  · rw [show W - k = (W - (k + 1)) + 1 by omega, timesN_more hw] at ht
    omega
  · intro i d hi hd
    have hiW : i < W := by
      have := (List.getElem?_eq_some_iff.1 hd).1
      rw [warnL_length (by omega)] at this; omega
    have hx : c[i]? = some c[i] := List.getElem?_eq_getElem (by omega)
    have hu0 : (upL w)[i]? = some 0 := by
      rcases Nat.lt_or_ge (i + 1) W with h2 | h2
      · have h3 : w[i + 1]? = some w[i + 1] := List.getElem?_eq_getElem (by omega)
        have h4 := hz (i + 1) _ (by omega) h3
        rw [h4] at h3
        exact upL_at h3
      · exact upL_last (by omega)
    rw [warnL_at hx hu0] at hd
    have := h9 c[i] (List.getElem_mem _)
    injection hd with hd
    omega
theorem CarS.start {W : Nat} {c w : List Nat} (hc : c.length = W) (hw : w.length = W) (h9 : Le 9 c) (h1 : Le 1 w) : CarS W (timesN W c w) 0 c w :=
  ⟨hc, hw, h9, h1, Nat.zero_le _, by rw [Nat.sub_zero, Nat.zero_add], fun i d hi hd => by have := (List.getElem?_eq_some_iff.1 hd).1; omega⟩

/-- A mark is there. -/
theorem mark_byte {w : List Nat} (h1 : Le 1 w) : decide (0 ≤ Lib.indexByte (dstr w).data.toList 49) = !(noMark w) := by
  rw [dstr_data]
  induction w with
  | nil => rfl
  | cons d w ih =>
    have hd := h1 d (List.mem_cons_self ..)
    have ih2 := ih (fun x hx => h1 x (List.mem_cons_of_mem _ hx))
    have e : Lib.indexByte (UInt8.ofNat (48 + d) :: w.map fun d => UInt8.ofNat (48 + d)) 49 = if UInt8.ofNat (48 + d) == 49 then 0 else if Lib.indexByte (w.map fun d => UInt8.ofNat (48 + d)) 49 == -1 then -1 else Lib.indexByte (w.map fun d => UInt8.ofNat (48 + d)) 49 + 1 := rfl
    rw [List.map_cons, e]
    have hge := Lib.indexByte_ge (w.map fun d => UInt8.ofNat (48 + d)) 49
    have hm : noMark (d :: w) = (d == 0 && noMark w) := by simp [noMark]
    rw [hm]
    rcases Nat.lt_or_ge d 1 with h0 | h0
    · obtain rfl : d = 0 := by omega
      have hb : (UInt8.ofNat (48 + 0) == 49) = false := by decide
      rw [hb]
      simp only [Bool.false_eq_true, if_false, beq_self_eq_true, Bool.true_and]
      rw [← ih2]
      rcases Int.lt_or_le (Lib.indexByte (w.map fun d => UInt8.ofNat (48 + d)) 49) 0 with h2 | h2
      · have h3 : Lib.indexByte (w.map fun d => UInt8.ofNat (48 + d)) 49 = -1 := by omega
        rw [h3]; rfl
      · have h3 : (Lib.indexByte (w.map fun d => UInt8.ofNat (48 + d)) 49 == -1) = false := by rw [beq_eq_false_iff_ne]; omega
        rw [h3]
        simp only [Bool.false_eq_true, if_false]
        rw [decide_eq_true h2, decide_eq_true (by omega)]
    · obtain rfl : d = 1 := by omega
      have hb : (UInt8.ofNat (48 + 1) == 49) = true := by decide
      rw [hb]; rfl
theorem dval_dstr (w : List Nat) (h : Le 9 w) : 0 ≤ dval (dstr w).data.toList ∧ (decide (0 < dval (dstr w).data.toList) = !(noMark w)) := by
  rw [dstr_data]
  refine snoc_ind (P := fun w => Le 9 w → 0 ≤ dval (w.map fun d => UInt8.ofNat (48 + d)) ∧ (decide (0 < dval (w.map fun d => UInt8.ofNat (48 + d))) = !(noMark w))) ?_ ?_ w h
  · intro _; simp [dval, noMark]
  · intro l d ih hl
    have hd := hl d (by simp)
    obtain ⟨i1, i2⟩ := ih (fun x hx => hl x (by simp [hx]))
    have hm : noMark (l ++ [d]) = (noMark l && d == 0) := by simp [noMark]
    rw [List.map_append, List.map_cons, List.map_nil, dval_snoc, u8_toNat (by omega), hm]
    refine ⟨by omega, ?_⟩
    cases hn : noMark l
    · rw [hn] at i2
      have : 0 < dval (l.map fun d => UInt8.ofNat (48 + d)) := by simpa using i2
      rw [decide_eq_true (by omega)]; rfl
    · rw [hn] at i2
      have : ¬ 0 < dval (l.map fun d => UInt8.ofNat (48 + d)) := by simpa using i2
      have h0 : dval (l.map fun d => UInt8.ofNat (48 + d)) = 0 := by omega
      rw [h0]
      rcases Nat.eq_zero_or_pos d with h2 | h2
      · subst h2; rfl
      · have h3 : (d == 0) = false := by rw [beq_eq_false_iff_ne]; omega
        rw [h3, decide_eq_true (by omega)]; rfl

/-- 'string(b)' of a row of the call's own that holds digits. -/
theorem run_dstr {src dst e : TypeId} {B : Nat} {E : TypeId} {w : World} {g c W : Nat} {ds : List Nat} {xs : List Int} (hs : Try.prog.underlying src = some (.slice e)) (he : Try.prog.underlying e = some (.int .u8)) (hd' : Try.prog.underlying dst = some .string)
    (h : OwnB E B w (some ⟨g, 0, none⟩) c xs) (hx : xs = ds.map fun d : Nat => ((48 + d : Nat) : Int)) (hl : ds.length = W) (h9 : Le 9 ds) :
    (convert src dst (.slice (some ⟨g, 0, none⟩) W c)).run Try.prog w = .ok (.string (dstr ds)) w := by
  subst hx hl
  have := run_convert_bytes_back (P := Try.prog) w src dst e ⟨g, 0, none⟩ c (ds.map fun d => UInt8.ofNat (48 + d)) hs he hd' (fun j hj => by
    rw [List.length_map] at hj
    obtain ⟨g', x, hx, hg, hc, _⟩ := h.at_ (k := j) (by rw [List.length_map]; exact hj)
    simp only [Option.some.injEq, Addr.mk.injEq, and_true] at hg
    subst hg
    have hj2 : ds[j]? = some ds[j] := List.getElem?_eq_getElem hj
    rw [List.getElem?_map, hj2] at hx
    injection hx with hx
    have hadd : (⟨g, 0, none⟩ : Addr).add j = ⟨g, j, none⟩ := by unfold Addr.add; split <;> simp_all
    have h9j := h9 ds[j] (List.getElem_mem _)
    rw [hadd, hc, ← hx, List.getElem_map, u8_toNat (by omega)])
  rw [List.length_map] at this
  exact this

end Go.Proofs.Ytinhcdppdnmlgaa
