/- Merged out of the texts PolyA PolyB. -/
import Derived.Test.YtinhcdppdnmlgaaProg
import Derived.Test.YtinhcdppdnmlgaaGrA
import Derived.Test.YtinhcdppdnmlgaaMem
import Derived.Deep.QuietTactic
import Derived.BigQuiet
/- Contracts of the program's small functions on numbers and lists of numbers: each returns what the plain function of its name reckons, and changes nothing that was there before. -/
namespace Go.Proofs.Ytinhcdppdnmlgaa
open Go.RowKit
set_option maxRecDepth 4000

theorem infoI : (Try.prog.info? 3).map (fun i => (i.zero, i.size, i.bytes)) = some (some (.int .i64 0), 1, 8) := by kernel_rfl

theorem all_take_succ {α : Type} (p : α → Bool) (zs : List α) (k : Nat) (x : α) (hx : zs[k]? = some x) (h : (zs.take k).all p = true) (h2 : p x = true) : (zs.take (k + 1)).all p = true := by
  obtain ⟨hk, rfl⟩ := List.getElem?_eq_some_iff.1 hx
  rw [List.take_succ_eq_append_getElem hk, List.all_append, h]
  simp [h2]
theorem all_false_of {α : Type} (p : α → Bool) (zs : List α) (k : Nat) (x : α) (hx : zs[k]? = some x) (h2 : p x = false) : zs.all p = false := by
  rw [List.all_eq_false]
  exact ⟨x, List.mem_of_getElem? hx, by simp [h2]⟩

/-- The bounds of a sum of a polynomial's value: each running sum and each product fits. -/
def ValOk (p : List Int) (n : Int) : Prop :=
  ∀ (k : Nat) (x : Int), p[k]? = some x → -1000000000000000000 ≤ x * chs n k ∧ x * chs n k ≤ 1000000000000000000 ∧ -4000000000000000000 ≤ val (p.take k) n ∧ val (p.take k) n ≤ 4000000000000000000

theorem ValOk.of {p : List Int} (hp : p.length ≤ 7) (hx : ∀ x ∈ p, -100000 ≤ x ∧ x ≤ 100000) {n : Int} (hn : -300 ≤ n) (hn' : n ≤ 300) : ValOk p n := by
  intro k x hk
  have hlt : k < p.length := (List.getElem?_eq_some_iff.1 hk).1
  have h1 := hx x (List.mem_of_getElem? hk)
  have h2 := chs_bd n hn hn' k (by omega)
  have h3 := chB_le k (by omega)
  have h4 := mul_bd x (chs n k) 100000 1064089721800 (by decide) h1.1 h1.2 (by omega) (by omega)
  have h5 := val_bd (p := p.take k) (by rw [List.length_take]; omega) (fun y hy => hx y (List.mem_of_mem_take hy)) n hn hn'
  omega

end Go.Proofs.Ytinhcdppdnmlgaa

/- Contracts of first differences, of a checked polynomial, of a value. -/
namespace Go.Proofs.Ytinhcdppdnmlgaa
open Go.RowKit
set_option maxRecDepth 4000

/-- The slice's cells do not lie in block g. -/
def Off (A : Option Addr) (g : Nat) : Prop := ∀ a, A = some a → a.block ≠ g

theorem SI.grown {w w' : World} {A : Option Addr} {zs : List Int} {g : Nat} (h : SI w A zs) (hg : w.grownBy w' (some g)) (ho : Off A g) : SI w' A zs :=
  ⟨h.1, fun k v hk => by
    obtain ⟨b, off, e, hb, hv⟩ := h.2 k v hk
    have hne := ho _ e
    exact ⟨b, off, e, Nat.lt_of_lt_of_le hb hg.size, hg.cell hv (by simpa using hne)⟩⟩

theorem SI.alloc {w : World} {A : Option Addr} {zs : List Int} (h : SI w A zs) (o : Obj) : SI (w.alloc o) A zs := h.below ((Below.refl _ _).alloc (Nat.le_refl _) o)

theorem OwnI.off {E : TypeId} {B : Nat} {w : World} {A : Option Addr} {c : Nat} {zs : List Int} (h : OwnI E B w A c zs) {g : Nat} (hg : g < B) : Off A g := by
  intro a ha
  subst ha
  have := (h.2.lt a.block rfl).1
  omega

theorem nbrs_zero_at (zs : List Int) (k : Nat) (hk : k < zs.length) : ∃ x, (nbrs k zs)[0]? = some x := by
  have : 0 < (nbrs k zs).length := by rw [nbrs_length]; omega
  exact ⟨_, List.getElem?_eq_getElem this⟩

end Go.Proofs.Ytinhcdppdnmlgaa
