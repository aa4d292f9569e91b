/- Words for the exact laws: a list of the call's own between two block numbers. -/
import Derived.Test.YthoodhdcmckkpaaLawA
namespace Go.Proofs.Ythoodhdcmckkpaa
open Go.RowKit

/-- A list of the call's own whose block lies from B on and below U. -/
def OwnU (E : TypeId) (B U : Nat) (w : World) (A : Option Addr) (c : Nat) (zs : List Int) : Prop :=
  OwnI E B w A c zs ∧ ∀ g, (Value.slice A zs.length c).ownBlock = some g → g < U

section
variable {E E' : TypeId} {B U B' U' : Nat} {w w' : World} {A A' : Option Addr} {c c' : Nat} {zs zs' : List Int}

theorem OwnI.u (h : OwnI E B w A c zs) : OwnU E B w.heap.size w A c zs := ⟨h, fun g hg => (h.2.lt g hg).2⟩

theorem OwnU.below (h : OwnU E B U w A c zs) (hb : Below w.heap.size w w') : OwnU E B U w' A c zs := ⟨h.1.below hb, h.2⟩

theorem OwnU.other (h : OwnU E B U w A c zs) {n' : Nat} (h' : OwnU E' B' U' w A' c' zs') (hg : w.grownBy w' (Value.slice A' n' c').ownBlock) (hd : U ≤ B' ∨ U' ≤ B) : OwnU E B U w' A c zs := by
  refine ⟨?_, h.2⟩
  have e : (Value.slice A' n' c').ownBlock = (Value.slice A' zs'.length c').ownBlock := by cases A' <;> rfl
  rw [e] at hg
  rcases hd with hd | hd
  · exact h.1.keep_hi h.2 hg fun r hr => Nat.le_trans hd (h'.1.2.lt r hr).1
  · exact h.1.keep_lo hg fun r hr => Nat.lt_of_lt_of_le (h'.2 r hr) hd

theorem OwnU.below_of (h' : OwnU E' B' U' w A' c' zs') {n' X : Nat} (hg : w.grownBy w' (Value.slice A' n' c').ownBlock) (hX : X ≤ B') (hs : X ≤ w.heap.size) : Below X w w' := by
  have e : (Value.slice A' n' c').ownBlock = (Value.slice A' zs'.length c').ownBlock := by cases A' <;> rfl
  rw [e] at hg
  exact (Below.refl _ _).grown hg hs fun r hr => Nat.le_trans hX (h'.1.2.lt r hr).1

theorem OwnU.marked (h : OwnU E B U w A c zs) (h' : OwnI E B w' A c zs') : OwnU E B U w' A c zs' := by
  refine ⟨h', fun g hg => h.2 g ?_⟩
  cases A with
  | none => cases hg
  | some a => exact hg
end

end Go.Proofs.Ythoodhdcmckkpaa
