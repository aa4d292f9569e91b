/- Texts cut at their blanks. -/
import Derived.Test.YtinhcdppdnmlgaaDoorTxP
import Derived.Lib.Split
import Derived.Lib.SplitLaws
namespace Go.Proofs.YtinhcdppdnmlgaaDoor
open Go.RowKit
set_option maxRecDepth 4000

/-- p ahead of the first piece. -/
def pre (p : List UInt8) : List (List UInt8) → List (List UInt8)
  | [] => [p]
  | h :: t => (p ++ h) :: t
/-- A text cut at its blanks. -/
def cutL : List UInt8 → List (List UInt8)
  | [] => [[]]
  | b :: l => if b = 32 then [] :: cutL l else pre [b] (cutL l)
theorem cutL_ne (l : List UInt8) : cutL l ≠ [] := by
  cases l with
  | nil => simp [cutL]
  | cons b l =>
    rw [cutL]
    split
    · simp
    · unfold pre; split <;> simp
theorem pre_nil {xs : List (List UInt8)} (h : xs ≠ []) : pre [] xs = xs := by cases xs with | nil => exact absurd rfl h | cons a r => rfl
theorem pre_pre (p q : List UInt8) (xs : List (List UInt8)) : pre p (pre q xs) = pre (p ++ q) xs := by cases xs <;> simp [pre]
theorem pre_cons (p h : List UInt8) (t : List (List UInt8)) : pre p (h :: t) = (p ++ h) :: t := rfl
theorem cutL_length (l : List UInt8) : (cutL l).length ≤ l.length + 1 := by
  induction l with
  | nil => simp [cutL]
  | cons b l ih =>
    rw [cutL]
    split
    · simp; exact ih
    · unfold pre; split
      · simp
      · rename_i h t e; rw [e] at ih; simp at ih ⊢; omega
theorem cutL_small (l : List UInt8) : ∀ p ∈ cutL l, p.length ≤ l.length := by
  induction l with
  | nil => simp [cutL]
  | cons b l ih =>
    rw [cutL]
    split
    · intro p hp
      rcases List.mem_cons.1 hp with rfl | hp
      · simp
      · have := ih p hp; simp; omega
    · intro p hp
      unfold pre at hp
      split at hp
      · simp at hp; subst hp; simp
      · rename_i h t e
        rw [e] at ih
        rcases List.mem_cons.1 hp with rfl | hp
        · have := ih h (List.mem_cons_self ..); simp; omega
        · have := ih p (List.mem_cons_of_mem _ hp); simp; omega

theorem join_pre (p : List UInt8) {xs : List (List UInt8)} (h : xs ≠ []) : Lib.join (pre p xs) [32] = p ++ Lib.join xs [32] := by
  cases xs with
  | nil => exact absurd rfl h
  | cons a r => rw [pre_cons, Lib.join_cons, Lib.join_cons, List.append_assoc]
theorem join_empty {xs : List (List UInt8)} (h : xs ≠ []) : Lib.join ([] :: xs) [32] = 32 :: Lib.join xs [32] := by
  cases xs with
  | nil => exact absurd rfl h
  | cons a r => rw [Lib.join_cons, Lib.join_cons]; simp [Lib.joinTail]
/-- Joined again, the pieces are the text. -/
theorem join_cut (l : List UInt8) : Lib.join (cutL l) [32] = l := by
  induction l with
  | nil => simp [cutL, Lib.join_one]
  | cons b l ih =>
    rw [cutL]
    split
    · rename_i h; rw [join_empty (cutL_ne l), ih, h]
    · rw [join_pre _ (cutL_ne l), ih]; rfl
theorem cut_plain {p : List UInt8} (h : ∀ b ∈ p, b ≠ 32) (l : List UInt8) : cutL (p ++ l) = pre p (cutL l) := by
  induction p with
  | nil => rw [List.nil_append, pre_nil (cutL_ne l)]
  | cons b p ih =>
    rw [List.cons_append, cutL, if_neg (h b (List.mem_cons_self ..)), ih (fun x hx => h x (List.mem_cons_of_mem _ hx)), pre_pre]; rfl
/-- Cut again, a joined text gives the pieces. -/
theorem cut_join (xs : List (List UInt8)) (hne : xs ≠ []) (h : ∀ p ∈ xs, ∀ b ∈ p, b ≠ 32) : cutL (Lib.join xs [32]) = xs := by
  induction xs with
  | nil => exact absurd rfl hne
  | cons a r ih =>
    have ha := h a (List.mem_cons_self ..)
    cases r with
    | nil => rw [Lib.join_one]; have := cut_plain ha []; rw [List.append_nil] at this; rw [this]; simp [cutL, pre]
    | cons c t =>
      have e : Lib.join (a :: c :: t) [32] = a ++ 32 :: Lib.join (c :: t) [32] := by
        rw [Lib.join_cons, Lib.join_cons]; simp [Lib.joinTail]
      rw [e, cut_plain ha, cutL, if_pos rfl, ih (by simp) (fun p hp => h p (List.mem_cons_of_mem _ hp)), pre_cons, List.append_nil]

theorem byte_cons (b : UInt8) (l : List UInt8) : (b = 32 ∧ Lib.indexByte (b :: l) 32 = 0) ∨ (b ≠ 32 ∧ Lib.indexByte l 32 = -1 ∧ Lib.indexByte (b :: l) 32 = -1) ∨ (b ≠ 32 ∧ 0 ≤ Lib.indexByte l 32 ∧ Lib.indexByte (b :: l) 32 = Lib.indexByte l 32 + 1) := by
  have hge := Lib.indexByte_ge l 32
  have e : Lib.indexByte (b :: l) 32 = if b == 32 then 0 else if Lib.indexByte l 32 == -1 then -1 else Lib.indexByte l 32 + 1 := rfl
  rw [e]
  by_cases hb : b = 32
  · left; simp [hb]
  · right
    rcases Int.lt_or_le (Lib.indexByte l 32) 0 with h | h
    · left
      have : Lib.indexByte l 32 = -1 := by omega
      simp [hb, this]
    · right
      have : Lib.indexByte l 32 ≠ -1 := by omega
      simp [hb, this]
      exact h
theorem cut_miss : ∀ (s : List UInt8), Lib.indexByte s 32 = -1 → cutL s = [s]
  | [], _ => rfl
  | b :: l, h => by
    rcases byte_cons b l with ⟨hb, h1⟩ | ⟨hb, h1, h2⟩ | ⟨hb, h1, h2⟩
    · omega
    · rw [cutL, if_neg hb, cut_miss l h1]; rfl
    · omega
theorem cut_hit : ∀ (s : List UInt8) (i : Nat), Lib.indexByte s 32 = i → cutL s = s.take i :: cutL (s.drop (i + 1))
  | [], i, h => by simp [Lib.indexByte] at h
  | b :: l, i, h => by
    rcases byte_cons b l with ⟨hb, h1⟩ | ⟨hb, h1, h2⟩ | ⟨hb, h1, h2⟩
    · have : i = 0 := by omega
      subst this
      rw [cutL, if_pos hb]; rfl
    · omega
    · obtain ⟨j, rfl⟩ : ∃ j, i = j + 1 := ⟨i - 1, by omega⟩
      rw [cutL, if_neg hb, cut_hit l j (by omega), pre_cons]; rfl
theorem splitK_cut : ∀ (n : Nat) (s : List UInt8), s.length ≤ n → Lib.splitK [32] 0 (Lib.count s [32]) s = cutL s
  | n, s, hn => by
    have hi := Lib.index_one s 32
    have hge := Lib.indexByte_ge s 32
    rcases Int.lt_or_le (Lib.indexByte s 32) 0 with h | h
    · have h1 : Lib.index s [32] = -1 := by omega
      rw [Lib.count_miss h1, cut_miss s (by omega)]; rfl
    · obtain ⟨i, hi2⟩ : ∃ i : Nat, Lib.indexByte s 32 = i := ⟨(Lib.indexByte s 32).toNat, by omega⟩
      have h1 : Lib.index s [32] = (i : Int) := by omega
      have hle := Lib.index_le s [32]
      have hcnt := Lib.count_hit (s := s) (sub := [32]) (i := i) (by simp) h1
      cases n with
      | zero =>
        have : s = [] := List.eq_nil_of_length_eq_zero (by omega)
        subst this
        simp [Lib.indexByte] at hi2
      | succ n =>
        have hs : s ≠ [] := by rintro rfl; simp [Lib.indexByte] at hi2
        have hl : (s.drop (i + 1)).length ≤ n := by rw [List.length_drop]; have := List.length_pos_iff.2 hs; omega
        have ih := splitK_cut n (s.drop (i + 1)) hl
        have e1 : ([32] : List UInt8).length = 1 := rfl
        rw [e1] at hcnt
        rw [hcnt, Nat.add_comm, Lib.splitK, if_neg (by rw [h1]; simp), h1, cut_hit s i hi2]
        simp only [Int.toNat_natCast, Nat.add_zero, e1]
        rw [ih]
/-- The pieces of a string. -/
def cutB (s : ByteArray) : List ByteArray := (cutL s.data.toList).map txt
theorem splitB_cut (s : ByteArray) : Lib.splitB ⟨#[32]⟩ 0 (Lib.countB s ⟨#[32]⟩) s = cutB s := by
  have h := Lib.splitB_data ⟨#[32]⟩ 0 (Lib.countB s ⟨#[32]⟩) s
  have h2 := splitK_cut s.data.toList.length s.data.toList (Nat.le_refl _)
  rw [show (⟨#[32]⟩ : ByteArray).data.toList = [32] from rfl] at h
  have h3 : Lib.countB s ⟨#[32]⟩ = Lib.count s.data.toList [32] := rfl
  rw [h3] at h ⊢
  rw [h2] at h
  rw [cutB, ← h, List.map_map]
  conv => lhs; rw [← List.map_id (Lib.splitB _ _ _ _)]
  apply List.map_congr_left
  intro x _
  exact (txt_data x).symm
theorem cutB_data (s : ByteArray) : (cutB s).map (·.data.toList) = cutL s.data.toList := by
  rw [cutB, List.map_map]
  conv => rhs; rw [← List.map_id (cutL _)]
  apply List.map_congr_left
  intro x _
  exact data_txt x
theorem cutB_length (s : ByteArray) : 1 ≤ (cutB s).length ∧ (cutB s).length ≤ s.size + 1 := by
  have h1 := cutL_length s.data.toList
  have h2 := List.length_pos_iff.2 (cutL_ne s.data.toList)
  have h3 : s.data.toList.length = s.size := by rw [Array.length_toList]; rfl
  rw [cutB, List.length_map]; omega
theorem cutB_small (s : ByteArray) : ∀ c ∈ cutB s, c.size ≤ s.size := by
  intro c hc
  obtain ⟨p, hp, rfl⟩ := List.mem_map.1 hc
  have := cutL_small _ p hp
  have h3 : s.data.toList.length = s.size := by rw [Array.length_toList]; rfl
  rw [txt_size]; omega
theorem countB_cut (s : ByteArray) : Lib.countB s ⟨#[32]⟩ + 1 = (cutB s).length := by
  have h := Lib.splitB_all ⟨#[32]⟩ (by decide) 0 (Lib.countB s ⟨#[32]⟩) s rfl
  rw [splitB_cut] at h; exact h.symm

/-- What the loop of a cut has done behind k bytes, the piece under way having begun at f. -/
def Cut1 (l : List UInt8) (k f : Nat) (os : List ByteArray) : Prop := cutL l = os.map (·.data.toList) ++ pre ((l.take k).drop f) (cutL (l.drop k))
theorem Cut1.start (l : List UInt8) : Cut1 l 0 0 [] := by simp [Cut1, pre_nil (cutL_ne l)]
theorem Cut1.plain {l : List UInt8} {k f : Nat} {os : List ByteArray} {b : UInt8} (h : Cut1 l k f os) (hf : f ≤ k) (hb : l[k]? = some b) (hne : b ≠ 32) : Cut1 l (k + 1) f os := by
  obtain ⟨hk, hb2⟩ := List.getElem?_eq_some_iff.1 hb
  rw [Cut1, List.drop_eq_getElem_cons hk, hb2, cutL, if_neg hne, pre_pre] at h
  have e : (l.take (k + 1)).drop f = (l.take k).drop f ++ [b] := by
    rw [List.take_add_one, hb, List.drop_append_of_le_length (by rw [List.length_take]; omega)]; rfl
  rw [Cut1, e]; exact h
theorem Cut1.blank {l : List UInt8} {k f : Nat} {os : List ByteArray} {x : ByteArray} (h : Cut1 l k f os) (hb : l[k]? = some 32) (hx : x.data.toList = (l.take k).drop f) : Cut1 l (k + 1) (k + 1) (os ++ [x]) := by
  obtain ⟨hk, hb2⟩ := List.getElem?_eq_some_iff.1 hb
  rw [Cut1, List.drop_eq_getElem_cons hk, hb2, cutL, if_pos rfl, pre_cons, List.append_nil] at h
  have e : (l.take (k + 1)).drop (k + 1) = [] := List.drop_eq_nil_of_le (by rw [List.length_take]; omega)
  rw [Cut1, e, pre_nil (cutL_ne _), List.map_append, List.map_cons, List.map_nil, hx, List.append_assoc]
  exact h
theorem Cut1.done {s x : ByteArray} {k f : Nat} {os : List ByteArray} (h : Cut1 s.data.toList k f os) (hk : s.size ≤ k) (hx : x.data.toList = (s.data.toList.take k).drop f) : os ++ [x] = cutB s := by
  have hl : s.data.toList.length = s.size := by rw [Array.length_toList]; rfl
  rw [Cut1, List.drop_eq_nil_of_le (show s.data.toList.length ≤ k by omega), cutL, pre_cons, List.append_nil, ← hx] at h
  have h2 : cutL s.data.toList = (os ++ [x]).map (·.data.toList) := by rw [h, List.map_append]; rfl
  rw [cutB, h2, List.map_map]
  conv => lhs; rw [← List.map_id (os ++ [x])]
  apply List.map_congr_left
  intro y _
  exact (txt_data y).symm
theorem extract_piece (s : ByteArray) (f k : Nat) : (s.extract f k).data.toList = (s.data.toList.take k).drop f := by
  rw [Lib.extract_data, List.drop_take]

end Go.Proofs.YtinhcdppdnmlgaaDoor
