/- Texts: strings with blanks between them. -/
import Derived.Test.YtinhcdppdnmlgaaMemV
import Derived.Lib.Join
namespace Go.Proofs.Ytinhcdppdnmlgaa
open Go.RowKit
set_option maxRecDepth 4000

/-- The string of these bytes. -/
def txt (l : List UInt8) : ByteArray := ⟨l.toArray⟩
theorem txt_size (l : List UInt8) : (txt l).size = l.length := by simp [txt, ByteArray.size]
theorem txt_data (s : ByteArray) : txt s.data.toList = s := by simp [txt]
theorem data_txt (l : List UInt8) : (txt l).data.toList = l := by simp [txt]
theorem txt_app (a b : List UInt8) : txt a ++ txt b = txt (a ++ b) := by
  apply ByteArray.ext
  simp [txt]

/-- Texts with blanks between them. -/
def joinB (cs : List ByteArray) : ByteArray := txt (Lib.join (cs.map (·.data.toList)) [32])
theorem joinB_one {cs : List ByteArray} {x : ByteArray} (h : cs[0]? = some x) : joinB (cs.take 1) = ⟨#[]⟩ ++ x := by
  have : cs.take 1 = [x] := by
    cases cs with
    | nil => simp at h
    | cons a r => simp at h; simp [h]
  rw [this, joinB, List.map_cons, List.map_nil, Lib.join_one, txt_data]
  apply ByteArray.ext
  simp
theorem joinB_succ {cs : List ByteArray} {x : ByteArray} {k : Nat} (h : cs[k]? = some x) (hk : 1 ≤ k) : joinB (cs.take (k + 1)) = joinB (cs.take k) ++ ⟨#[32]⟩ ++ x := by
  cases cs with
  | nil => simp at h
  | cons a r =>
    obtain ⟨j, rfl⟩ : ∃ j, k = j + 1 := ⟨k - 1, by omega⟩
    have h2 : r[j]? = some x := by simpa using h
    have h3 : (r.map (·.data.toList))[j]? = some x.data.toList := by rw [List.getElem?_map, h2]; rfl
    have e : ∀ i, joinB ((a :: r).take (i + 1)) = txt (a.data.toList ++ Lib.joinTail [32] ((r.map (·.data.toList)).take i)) := by
      intro i
      rw [joinB, List.take_succ_cons, List.map_cons, Lib.join_cons, List.map_take]
    have e1 : (⟨#[32]⟩ : ByteArray) = txt [32] := rfl
    rw [e, e, Lib.joinTail_take_succ [32] _ j _ h3, e1, txt_app]
    rw (occs := .pos [2]) [← txt_data x]
    rw [txt_app]
    simp [List.append_assoc]
theorem joinB_sizeM (m : Nat) {cs : List ByteArray} (h : ∀ c ∈ cs, c.size ≤ m) : (joinB cs).size ≤ (m + 1) * cs.length := by
  rw [joinB, txt_size]
  cases cs with
  | nil => simp [Lib.join_nil]
  | cons a r =>
    rw [List.map_cons, Lib.join_length]
    have hl : ∀ l : List ByteArray, (∀ c ∈ l, c.size ≤ m) → Lib.lens (l.map (·.data.toList)) ≤ m * l.length := by
      intro l
      induction l with
      | nil => simp [Lib.lens]
      | cons b t ih =>
        intro h
        have h1 := ih (fun c hc => h c (List.mem_cons_of_mem _ hc))
        have h2 := h b (List.mem_cons_self ..)
        simp only [Lib.lens, List.map_cons, List.sum_cons, List.length_cons] at h1 ⊢
        have h3 : b.data.toList.length = b.size := by rw [Array.length_toList]; rfl
        have h4 : m * (t.length + 1) = m * t.length + m := Nat.mul_succ _ _
        omega
    have h1 := hl (a :: r) h
    simp only [List.map_cons, List.length_cons, List.length_map, List.length_nil] at h1 ⊢
    have h4 : (m + 1) * (r.length + 1) = m * (r.length + 1) + (r.length + 1) := Nat.succ_mul _ _
    omega
theorem joinB_size {cs : List ByteArray} (h : ∀ c ∈ cs, c.size ≤ 12) : (joinB cs).size ≤ 13 * cs.length := joinB_sizeM 12 h

theorem SG.cellT {α : Type} {f : α → Value} {w : World} {b off : Nat} {xs : List α} {k : Nat} {x : α} (h : SG f w (some ⟨b, off, none⟩) xs) (hk : xs[k]? = some x) :
    w.cell? ⟨b, off + k, none⟩ = some (f x) ∧ b < w.heap.size := by
  obtain ⟨b', off', e, hb, hc⟩ := h.2 k (f x) (by rw [List.getElem?_map, hk]; rfl)
  simp only [Option.some.injEq, Addr.mk.injEq, and_true] at e
  obtain ⟨rfl, rfl⟩ := e
  exact ⟨hc, hb⟩

theorem ret_str {s t : ByteArray} (h : s = t) : Ending.returned (.string s) = .returned (.string t) := by rw [h]


end Go.Proofs.Ytinhcdppdnmlgaa
