/- What a law is told of a slice of strings that came in as a struct's one field, and how its contracts read it. -/
import Derived.Test.YtinhcdppdnmlgaaProg
import Derived.Test.YtinhcdppdnmlgaaMemV
import Derived.Deep.Strs
namespace Go.Proofs.Ytinhcdppdnmlgaa
open Go.RowKit Go.ChangeShapes Go.WideShapes Go.Deep

/-- A slice of strings that came in: it is nil; or it leads to a row of at least len cells, which hold the strings cs. -/
def IsStrs (w : World) (a : Option Addr) (len cap : Nat) (cs : List ByteArray) : Prop :=
  (a = none ∧ len = 0 ∧ cap = 0 ∧ cs = []) ∨
  ∃ x, a = some x ∧ len ≤ cap ∧ cap ≤ maxLen ∧ cs.length = len ∧ (∀ (i : Nat) (s : ByteArray), cs[i]? = some s → w.cell? (x.add i) = some (.string s)) ∧ ∀ s ∈ cs, s.size ≤ maxLen

theorem IsStrs.len {w : World} {a : Option Addr} {len cap : Nat} {cs : List ByteArray} (h : IsStrs w a len cap cs) : cs.length = len ∧ len ≤ 9223372036854775807 ∧ len ≤ cap := by
  rcases h with ⟨_, rfl, rfl, rfl⟩ | ⟨x, _, h1, h2, h3, _⟩
  · simp
  · unfold maxLen at h2
    omega

theorem IsStrs.sizes {w : World} {a : Option Addr} {len cap : Nat} {cs : List ByteArray} (h : IsStrs w a len cap cs) : ∀ s ∈ cs, s.size ≤ maxLen := by
  rcases h with ⟨_, rfl, rfl, rfl⟩ | ⟨x, _, _, _, _, _, h6⟩
  · simp
  · exact h6

theorem IsStrs.ss {w : World} {a : Option Addr} {len cap : Nat} {cs : List ByteArray} (h : IsStrs w a len cap cs) (hl : len ≤ 17592186044416) : SS w a cs := by
  rcases h with ⟨_, rfl, rfl, rfl⟩ | ⟨x, rfl, h1, h2, h3, h4, _⟩
  · exact ⟨by simp, fun k v h => by simp at h⟩
  · refine ⟨by simp; omega, fun j v hj => ?_⟩
    rw [List.getElem?_map] at hj
    obtain ⟨s, hs, rfl⟩ := Option.map_eq_some_iff.1 hj
    have hc := h4 j s hs
    have hlt := World.block_lt_of_cell? w _ hc
    obtain ⟨xb, xo, xv⟩ := x
    cases xv with
    | none =>
      refine ⟨xb, xo, rfl, ?_, ?_⟩
      · unfold Addr.add at hlt; split at hlt <;> simpa using hlt
      · have hadd : (⟨xb, xo, none⟩ : Addr).add j = ⟨xb, xo + j, none⟩ := by unfold Addr.add; split <;> simp_all
        rwa [hadd] at hc
    | some z =>
      exfalso
      have hjl := (List.getElem?_eq_some_iff.1 hs).1
      have hc0 := h4 0 cs[0] (List.getElem?_eq_getElem (by omega))
      unfold World.cell? at hc0
      simp only [Addr.add, if_true] at hc0
      split at hc0
      · simp at hc0
      · cases hc0

section
variable {H : Type} {enc : TypeId × Value → H} {P : Program} {w : World} {base : Nat} {spare : Nat → Bool} {held : Bool}

/-- A struct of one field, a slice of strings, by value. -/
theorem open_strs1 {r : Reach} {b0 : Nat} {t u e : TypeId} {f0 : Field} {v : Value} {d : DataW H} {p : List MemPlace} (hs : P.underlying t = some (.struct #[f0])) (hC : P.cellsOf t = 1) (h00 : f0.offset = 0) (h0t : f0.type = u) (hCu : P.cellsOf u = 1)
    (hu : P.underlying u = some (.slice e)) (he : P.underlying e = some .string) (hCe : P.cellsOf e = 1)
    (hv : Value.okWide P w r b0 t v) (h : DataW.Trod enc P w base spare held t v d p) :
    ∃ a len cap cs, v = .agg #[.slice a len cap] ∧ IsStrs w a len cap cs := by
  obtain ⟨cs, rfl, hsz⟩ := okWide_struct hs hv
  obtain ⟨fuel, hf⟩ := h
  obtain ⟨y0, n, hx, hl, h1⟩ := trod_struct1 hs hf
  rw [hC] at hsz
  have hcs : (Value.agg cs).cells.toList = cs.toList := by simp [Value.cells]
  rw [hcs, h00, h0t, hCu, List.drop_zero] at h1
  obtain ⟨l⟩ := cs
  match l, hsz with
  | [x], _ =>
    rcases open_strs hu he hCe h1 with ⟨h2, _⟩ | ⟨a, len, cap, m, Sx, h2, hb, hlc, hcm, hm, _, hcell⟩
    · simp at h2
      subst h2
      exact ⟨none, 0, 0, [], rfl, .inl ⟨rfl, rfl, rfl, rfl⟩⟩
    · simp at h2
      subst h2
      have hlm : len ≤ m := by rw [hm]; split <;> omega
      refine ⟨some a, len, cap, (List.range len).map Sx, rfl, .inr ⟨a, rfl, hlc, hcm, by simp, ?_, ?_⟩⟩
      · intro i s hi
        have hil : i < len := by have := (List.getElem?_eq_some_iff.1 hi).1; simpa using this
        have : s = Sx i := by simp [hil] at hi; exact hi.symm
        rw [this]
        exact (hcell i (by omega)).1
      · intro s hs'
        obtain ⟨i, hi, rfl⟩ := List.mem_map.1 hs'
        exact (hcell i (by have := List.mem_range.1 hi; omega)).2
end

end Go.Proofs.Ytinhcdppdnmlgaa
