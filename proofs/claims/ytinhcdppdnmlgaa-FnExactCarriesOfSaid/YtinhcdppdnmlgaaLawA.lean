/- Contracts of the laws' own helpers: copies, comparisons and marks of lists of numbers. -/
import Derived.Test.YtinhcdppdnmlgaaGrF
namespace Go.Proofs.Ytinhcdppdnmlgaa
open Go.RowKit
set_option maxRecDepth 4000

section
variable {E : TypeId} {B : Nat} {w w' : World} {A : Option Addr} {c : Nat} {zs : List Int}

theorem OwnI.at_ (h : OwnI E B w A c zs) {k : Nat} (hk : k < zs.length) :
    ∃ g x, zs[k]? = some x ∧ A = some ⟨g, 0, none⟩ ∧ w.cell? ⟨g, k, none⟩ = some (.int .i64 x) ∧ w.frozen? ⟨g, k, none⟩ = false := by
  rcases h.2.2 with ⟨_, h0⟩ | ⟨g, cap, cur, hv, _⟩
  · omega
  · simp only [Value.slice.injEq] at hv
    obtain ⟨rfl, _, rfl⟩ := hv
    refine ⟨g, zs[k], by simp [hk], rfl, ?_, h.2.frozenAt k⟩
    rw [h.2.cellAt k (by omega)]
    simp [hk]

theorem OwnI.set {g : Nat} (h : OwnI E B w (some ⟨g, 0, none⟩) c zs) (k : Nat) (v : Int) :
    OwnI E B (w.setCell ⟨g, k, none⟩ (.int .i64 v)) (some ⟨g, 0, none⟩) c (zs.set k v) := by
  have hs := h.2.stored k (.int .i64 v)
  refine ⟨by rw [List.length_set]; exact h.1, ?_⟩
  rw [List.length_set, List.map_set]
  exact hs.1

theorem OwnI.keep_lo {row : Option Nat} (h : OwnI E B w A c zs) (hg : w.grownBy w' row) (hr : ∀ r, row = some r → r < B) : OwnI E B w' A c zs := by
  refine ⟨h.1, h.2.kept hg ?_⟩
  cases hv : (Value.slice A zs.length c).ownBlock with
  | none => exact .inl rfl
  | some g =>
    right
    intro e
    have := (h.2.lt g hv).1
    have := hr g e.symm
    omega

theorem OwnI.keep_hi {row : Option Nat} {U : Nat} (h : OwnI E B w A c zs) (hu : ∀ g, (Value.slice A zs.length c).ownBlock = some g → g < U) (hg : w.grownBy w' row) (hr : ∀ r, row = some r → U ≤ r) : OwnI E B w' A c zs := by
  refine ⟨h.1, h.2.kept hg ?_⟩
  cases hv : (Value.slice A zs.length c).ownBlock with
  | none => exact .inl rfl
  | some g =>
    right
    intro e
    have := hu g hv
    have := hr g e.symm
    omega
end

theorem take_succ_eq {xs ys : List Int} {k : Nat} {x : Int} (h : xs.take k = ys.take k) (hx : xs[k]? = some x) (hy : ys[k]? = some x) : xs.take (k + 1) = ys.take (k + 1) := by
  obtain ⟨h1, h2⟩ := List.getElem?_eq_some_iff.1 hx
  obtain ⟨h3, h4⟩ := List.getElem?_eq_some_iff.1 hy
  rw [List.take_succ_eq_append_getElem h1, List.take_succ_eq_append_getElem h3, h, h2, h4]

def marks (k : Int) (n : Nat) : List Int := tab n fun i => k + i

theorem marks_length (k : Int) (n : Nat) : (marks k n).length = n := tab_length _ _

end Go.Proofs.Ytinhcdppdnmlgaa
