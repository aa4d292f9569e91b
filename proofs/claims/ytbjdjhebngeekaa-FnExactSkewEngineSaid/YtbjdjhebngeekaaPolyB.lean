/- Contracts of first differences, of a checked polynomial, of a value. -/
import Derived.Test.YtbjdjhebngeekaaPolyA
namespace Go.Proofs.Ytbjdjhebngeekaa
open Go.RowKit

/-- The slice's cells do not lie in block g. -/
def Off (A : Option Addr) (g : Nat) : Prop := ∀ a, A = some a → a.block ≠ g

theorem SI.grown {w w' : World} {A : Option Addr} {zs : List Int} {g : Nat} (h : SI w A zs) (hg : w.grownBy w' (some g)) (ho : Off A g) : SI w' A zs :=
  ⟨h.1, fun k v hk => by
    obtain ⟨b, off, e, hb, hv⟩ := h.2 k v hk
    have hne := ho _ e
    exact ⟨b, off, e, Nat.lt_of_lt_of_le hb hg.size, hg.cell hv (by simpa using hne)⟩⟩

theorem SI.alloc {w : World} {A : Option Addr} {zs : List Int} (h : SI w A zs) (o : Obj) : SI (w.alloc o) A zs := h.below ((Below.refl _ _).alloc (Nat.le_refl _) o)

theorem OwnI.off {E : TypeId} {B : Nat} {w : World} {A : Option Addr} {c : Nat} {zs : List Int} (h : OwnI E B w A c zs) {g : Nat} (hg : g < B) : Off A g := by
  intro a ha
  subst ha
  have := (h.2.lt a.block rfl).1
  omega

theorem nbrs_zero_at (zs : List Int) (k : Nat) (hk : k < zs.length) : ∃ x, (nbrs k zs)[0]? = some x := by
  have : 0 < (nbrs k zs).length := by rw [nbrs_length]; omega
  exact ⟨_, List.getElem?_eq_getElem this⟩

end Go.Proofs.Ytbjdjhebngeekaa
