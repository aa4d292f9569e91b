/- What a law is told of a slice of integers that came in, and how its contracts read it. -/
import Derived.Test.YtinhcdppdnmlgaaDoorProg
import Derived.Test.YtinhcdppdnmlgaaDoorMem
namespace Go.Proofs.YtinhcdppdnmlgaaDoor
open Go.RowKit
set_option maxRecDepth 4000

/-- A slice of integers that came in: it is nil; or it leads to a row of cap cells, the numbers zs (the first len are its elements), each fitting its kind. -/
def IsRow (k : IntKind) (w : World) (a : Option Addr) (len cap : Nat) (zs : List Int) : Prop :=
  (a = none ∧ len = 0 ∧ cap = 0 ∧ zs = []) ∨
  ∃ x, a = some x ∧ len ≤ cap ∧ cap ≤ maxLen ∧ zs.length = cap ∧ (∀ i, i < zs.length → w.cell? (x.add i) = some (.int k (zs.getD i 0))) ∧ ∀ n ∈ zs, (Lit.int k n).wf = true

theorem IsRow.len {k : IntKind} {w : World} {a : Option Addr} {len cap : Nat} {zs : List Int} (h : IsRow k w a len cap zs) : (zs.take len).length = len ∧ len ≤ 9223372036854775807 ∧ len ≤ cap := by
  rcases h with ⟨_, rfl, rfl, rfl⟩ | ⟨x, _, h1, h2, h3, _⟩
  · simp
  · unfold maxLen at h2
    rw [List.length_take]
    omega

/-- The reading of such a slice as cells. -/
theorem IsRow.sr {k : IntKind} {w : World} {a : Option Addr} {len cap : Nat} {zs : List Int} (h : IsRow k w a len cap zs) (hl : len ≤ 17592186044416) : SR w a ((zs.take len).map (Value.int k)) := by
  rcases h with ⟨_, rfl, rfl, rfl⟩ | ⟨x, rfl, h1, h2, h3, h4, _⟩
  · exact ⟨by simp, fun k v h => by simp at h⟩
  · refine ⟨by simp; omega, fun j v hj => ?_⟩
    rw [List.getElem?_map] at hj
    have hjl : j < len := by
      rcases Nat.lt_or_ge j len with hlt | hge
      · exact hlt
      · rw [List.getElem?_eq_none (by rw [List.length_take]; omega)] at hj; cases hj
    have hc := h4 j (by omega)
    have hv : v = .int k (zs.getD j 0) := by
      rw [List.getElem?_take, if_pos hjl, List.getElem?_eq_getElem (by omega)] at hj
      simp only [Option.map_some, Option.some.injEq] at hj
      rw [← hj]; simp [show j < zs.length by omega]
    subst hv
    have hlt := World.block_lt_of_cell? w _ hc
    obtain ⟨xb, xo, xv⟩ := x
    cases xv with
    | none =>
      refine ⟨xb, xo, rfl, ?_, ?_⟩
      · unfold Addr.add at hlt; split at hlt <;> simpa using hlt
      · have hadd : (⟨xb, xo, none⟩ : Addr).add j = ⟨xb, xo + j, none⟩ := by unfold Addr.add; split <;> simp_all
        rwa [hadd] at hc
    | some z =>
      exfalso
      have hc0 := h4 0 (by omega)
      unfold World.cell? at hc0
      simp only [Addr.add, if_true] at hc0
      split at hc0
      · simp at hc0
      · cases hc0

theorem IsRow.si {w : World} {a : Option Addr} {len cap : Nat} {zs : List Int} (h : IsRow .i64 w a len cap zs) (hl : len ≤ 17592186044416) : SI w a (zs.take len) := h.sr hl

theorem IsRow.bytes {w : World} {a : Option Addr} {len cap : Nat} {zs : List Int} (h : IsRow .u8 w a len cap zs) : ∀ x ∈ zs.take len, 0 ≤ x ∧ x ≤ 255 := by
  intro x hx
  rcases h with ⟨_, rfl, rfl, rfl⟩ | ⟨_, _, _, _, _, _, h6⟩
  · simp at hx
  · have h := h6 x (List.mem_of_mem_take hx)
    have hmin : IntKind.u8.min = 0 := rfl
    have hmax : IntKind.u8.max = 255 := rfl
    simp only [Lit.wf, Bool.and_eq_true, decide_eq_true_eq, hmin, hmax] at h
    exact h

end Go.Proofs.YtinhcdppdnmlgaaDoor
