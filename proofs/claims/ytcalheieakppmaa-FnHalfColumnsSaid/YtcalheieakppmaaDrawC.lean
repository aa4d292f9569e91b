/- Contracts of the draws that sometimes spoil a polynomial. -/
import Derived.Test.YtcalheieakppmaaDrawB
namespace Go.Proofs.Ytcalheieakppmaa
open Go.RowKit
set_option maxRecDepth 4000

/-- Below block B only block g may have changed. -/
structure Only (B g : Nat) (w w' : World) : Prop where
  os : w'.os = w.os
  tape : w'.tape = w.tape
  output : w'.output = w.output
  size : w.heap.size ≤ w'.heap.size
  block : ∀ k, k < B → k ≠ g → w'.heap[k]? = w.heap[k]?

theorem Only.refl (B g : Nat) (w : World) : Only B g w w := ⟨rfl, rfl, rfl, Nat.le_refl _, fun _ _ _ => rfl⟩
theorem Only.trans {B g : Nat} {a b c : World} (h : Only B g a b) (k : Only B g b c) : Only B g a c :=
  ⟨k.os.trans h.os, k.tape.trans h.tape, k.output.trans h.output, Nat.le_trans h.size k.size, fun i hi hne => (k.block i hi hne).trans (h.block i hi hne)⟩
theorem Only.grown {B g : Nat} {a b : World} (h : a.grownBy b (some g)) (hB : B ≤ a.heap.size) : Only B g a b :=
  ⟨h.os, h.tape, h.output, h.size, fun i hi hne => h.block i (by omega) (by simpa using hne)⟩
theorem Only.below {B B' g : Nat} {a b : World} (h : Below B' a b) (hB : B ≤ B') : Only B g a b :=
  ⟨h.os, h.tape, h.output, h.size, fun i hi _ => h.block i (by omega)⟩
theorem Only.grownBy {g : Nat} {a b : World} (h : Only a.heap.size g a b) : a.grownBy b (some g) :=
  ⟨h.os, h.tape, h.output, h.size, fun i hi hne => h.block i hi (by simpa using hne)⟩

/-- A list that has been spoiled, perhaps. -/
def Spoiled (E : TypeId) (Q : List Int → Prop) (B g : Nat) (P : Int) (w : World) (e : Ending) (w' : World) : Prop :=
  ∃ A c zs, e = .returned (.slice A zs.length c) ∧ Q zs ∧ OwnI E B w' A c zs ∧ zs.length ≤ c ∧ Rdr w' g P ∧ Only B g w w'

def badNums : List Int := [100000, 100001, -100000, -100001, 9223372036854775807]

theorem OwnI.cut0 {E : TypeId} {B : Nat} {w : World} {A : Option Addr} {c : Nat} {zs : List Int} (h : OwnI E B w A c zs) : OwnI E B w A c [] := by
  refine ⟨by simp, ?_⟩
  rcases h.2.2 with ⟨h1, h2⟩ | ⟨g, cap, cur, hv, h3, h4, h5, h6, h7, h8⟩
  · simp only [Value.slice.injEq] at h1
    obtain ⟨rfl, _, rfl⟩ := h1
    exact World.ownsRow_nil _ _ _ _
  · simp only [Value.slice.injEq] at hv
    obtain ⟨rfl, _, rfl⟩ := hv
    exact ⟨by simp, .inr ⟨g, c, cur, rfl, h3, h4, by simp, h6, h7, by simp⟩⟩

/-- A list has been drawn, of whatever content. -/
def DrawnAny (E : TypeId) (g : Nat) (P : Int) (w : World) (e : Ending) (w' : World) : Prop := Drawn E (fun zs => zs.length ≤ 8) g P w e w'

/-- What a law is given by a draw of one polynomial. -/
def Drew (E : TypeId) (w : World) (e : Ending) (w' : World) : Prop :=
  ∃ A c zs, e = .returned (.slice A zs.length c) ∧ zs.length ≤ 8 ∧ OwnI E w.heap.size w' A c zs ∧ zs.length ≤ c ∧ Below w.heap.size w w'

theorem grown_new {a b c : World} {g : Nat} (hb : Below a.heap.size a b) (hg : a.heap.size ≤ g) (k : b.grownBy c (some g)) : Below a.heap.size a c :=
  hb.grown k hb.size fun r hr => by simp at hr; omega

theorem drew_of {E : TypeId} {w w1 w2 : World} {g : Nat} {P : Int} {e : Ending} (hb : Below w.heap.size w w1) (hg : w.heap.size ≤ g) (h : DrawnAny E g P w1 e w2) : Drew E w e w2 := by
  obtain ⟨A, c, zs, rfl, hl, ho, hc, _, hgr⟩ := h
  exact ⟨A, c, zs, rfl, hl, ho.low hb.size, hc, grown_new hb hg hgr⟩

end Go.Proofs.Ytcalheieakppmaa
