/- Merged out of the texts PolyC PolyD. -/
import Derived.Test.YtinhcdppdnmlgaaGrB
import Derived.Test.YtinhcdppdnmlgaaGrA
import Derived.Lib.SliceRun
/- Contracts of the program's functions that shift, sum, step and turn polynomials. -/
namespace Go.Proofs.Ytinhcdppdnmlgaa
open Go.RowKit
set_option maxRecDepth 4000

/-- The result of a function that returns a polynomial or nothing. -/
def RetO (E : TypeId) (B : Nat) (w : World) (r : Option (List Int)) (e : Ending) (w' : World) : Prop := RetIB E B w (r.getD []) r.isSome e w'

theorem RetO.none_ {E : TypeId} {B : Nat} {w w' : World} {r : Option (List Int)} (h : r = none) (hb : Below B w w') : RetO E B w r (.returned (.tuple #[.slice none 0 0, .bool false])) w' := by
  subst h; exact RetIB.empty rfl rfl hb
theorem RetO.some_ {E : TypeId} {B n c : Nat} {A : Option Addr} {w w' : World} {r : Option (List Int)} {zs : List Int} (h : r = some zs) (ho : OwnI E B w' A c zs) (hn : n = zs.length) (hb : Below B w w') :
    RetO E B w r (.returned (.tuple #[.slice A n c, .bool true])) w' := by
  subst h; exact RetIB.own ho hn rfl hb

theorem RetO.trans {E : TypeId} {B B1 : Nat} {w w1 w' : World} {r : Option (List Int)} {e : Ending} (h : RetO E B1 w1 r e w') (hB : B ≤ B1) (hb : Below B w w1) : RetO E B w r e w' := by
  obtain ⟨A, c, he, ho, hb'⟩ := h
  exact ⟨A, c, he, ho.low hB, hb.trans (hb'.mono hB)⟩

/-- The end of a function that has filled a row with values: first differences, checked. -/
theorem step_bd {p : List Int} (hv : validP p = true) (f : Int → Int) (hf : ∀ i : Nat, i < p.length → -60 ≤ f i ∧ f i ≤ 60) :
    ∀ k, k < (tab p.length fun i => val p (f i)).length → ∀ x ∈ nbrs k (tab p.length fun i => val p (f i)), -2000000000000000000 ≤ x ∧ x ≤ 2000000000000000000 := by
  obtain ⟨_, h7, _⟩ := validP_iff.1 hv
  refine nbrs_small (B := 10000000000000) (by decide) (by rw [tab_length]; exact h7) (by decide) ?_
  intro x hx
  obtain ⟨i, hi, rfl⟩ := tab_mem hx
  exact val60 hv (hf i hi).1 (hf i hi).2

theorem mul_bd' {p q : List Int} (hp : validP p = true) (hq : validP q = true) (hl : p.length + q.length - 1 ≤ 7) :
    ∀ k, k < (tab (p.length + q.length - 1) fun n => val p n * val q n).length → ∀ x ∈ nbrs k (tab (p.length + q.length - 1) fun n => val p n * val q n), -2000000000000000000 ≤ x ∧ x ≤ 2000000000000000000 := by
  refine nbrs_small (B := 10000000000000000) (by decide) (by rw [tab_length]; exact hl) (by decide) ?_
  intro x hx
  obtain ⟨i, hi, rfl⟩ := tab_mem hx
  have h1 := val6 hp i (by omega)
  have h2 := val6 hq i (by omega)
  have := mul_bd _ _ 100000000 100000000 (by decide) h1.1 h1.2 h2.1 h2.2
  omega

end Go.Proofs.Ytinhcdppdnmlgaa

/- Contracts: a clone of a list of numbers; sums, differences, shifts of polynomials. -/
namespace Go.Proofs.Ytinhcdppdnmlgaa
open Go.RowKit
set_option maxRecDepth 4000

theorem SI.cells {w : World} {A : Option Addr} {zs : List Int} (h : SI w A zs) {b off : Nat} (hA : A = some ⟨b, off, none⟩) :
    ∀ (j : Nat) (u : Value), (zs.map (Value.int .i64))[j]? = some u → w.cell? ((⟨b, off, none⟩ : Addr).add j) = some u := by
  intro j u hu
  obtain ⟨b', off', e, _, hc⟩ := h.2 j u hu
  rw [hA] at e
  simp only [Option.some.injEq, Addr.mk.injEq, and_true] at e
  obtain ⟨rfl, rfl⟩ := e
  have hadd : (⟨b, off, none⟩ : Addr).add j = ⟨b, off + j, none⟩ := by unfold Addr.add; split <;> simp_all
  rw [hadd]; exact hc

theorem ints_one (zs : List Int) : ∀ u ∈ zs.map (Value.int .i64), u.oneCell' = true := by
  intro u hu
  obtain ⟨x, _, rfl⟩ := List.mem_map.1 hu
  rfl

theorem SI.drop {w : World} {A : Option Addr} {zs : List Int} (h : SI w A zs) {b off : Nat} (hA : A = some ⟨b, off, none⟩) (k : Nat) : SI w (some ⟨b, off + k, none⟩) (zs.drop k) := by
  subst hA
  refine ⟨by have := h.1; simp at this ⊢; omega, fun j v hj => ?_⟩
  rw [List.map_drop] at hj
  rw [List.getElem?_drop] at hj
  obtain ⟨b', off', e, hb, hc⟩ := h.2 (k + j) v hj
  simp only [Option.some.injEq, Addr.mk.injEq, and_true] at e
  obtain ⟨rfl, rfl⟩ := e
  exact ⟨b, off + k, rfl, hb, by rw [Nat.add_assoc]; exact hc⟩

end Go.Proofs.Ytinhcdppdnmlgaa
