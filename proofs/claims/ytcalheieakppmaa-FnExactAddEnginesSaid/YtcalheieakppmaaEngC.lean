/- Memory of several cells of a call's own; what functions on engines return. -/
import Derived.Test.YtcalheieakppmaaEngB
namespace Go.Proofs.Ytcalheieakppmaa
open Go.RowKit
set_option maxRecDepth 4000

theorem Cl.lowB {w w' : World} {g B : Nat} {v : Value} (h : Cl w g v) (b : Below B w w') (hg : g < B) : Cl w' g v := by
  refine ⟨?_, ?_, Nat.lt_of_lt_of_le h.2.2 b.size⟩
  · rw [b.cell (p := ⟨g, 0, none⟩) hg]; exact h.1
  · rw [b.frozen (p := ⟨g, 0, none⟩) hg]; exact h.2.1

/-- Cells of the call's own (block and value), and nothing changed below. -/
def Cs (w w1 : World) (l : List (Nat × Value)) : Prop := Below w.heap.size w w1 ∧ ∀ p ∈ l, Cl w1 p.1 p.2 ∧ w.heap.size ≤ p.1

theorem Cs.nil (w : World) : Cs w w [] := ⟨Below.refl _ _, fun p h => by simp at h⟩
theorem Cs.below {w w1 w2 : World} {l : List (Nat × Value)} (h : Cs w w1 l) (b : Below w1.heap.size w1 w2) : Cs w w2 l :=
  ⟨h.1.trans (b.mono h.1.size), fun p hp => ⟨(h.2 p hp).1.below b, (h.2 p hp).2⟩⟩
theorem Cs.new {w w1 : World} {l : List (Nat × Value)} (h : Cs w w1 l) (v : Value) (T : TypeId) {g : Nat} (hg : w1.heap.size = g) : Cs w (w1.alloc (.cells #[v] T)) ((g, v) :: l) := by
  subst hg
  have h2 := h.below ((Below.refl w1.heap.size w1).alloc (Nat.le_refl _) (.cells #[v] T))
  refine ⟨h2.1, fun p hp => ?_⟩
  rcases List.mem_cons.1 hp with rfl | hp
  · exact ⟨Cl.new w1 v T, h.1.size⟩
  · exact h2.2 p hp
theorem Cs.set {w w1 : World} {l : List (Nat × Value)} {r : Nat} (h : Cs w w1 l) (hr : ∀ p ∈ l, r ≠ p.1) (hB : w.heap.size ≤ r) (k : Nat) (x : Value) : Cs w (w1.setCell ⟨r, k, none⟩ x) l :=
  ⟨h.1.setCell (p := ⟨r, k, none⟩) hB x, fun p hp => ⟨(h.2 p hp).1.other (grown_set w1 ⟨r, k, none⟩ x) (hr p hp), (h.2 p hp).2⟩⟩
theorem Cs.drew {w w1 : World} {l : List (Nat × Value)} (h : Cs w w1 l) : Cs w w1.drew l := ⟨h.1.drew, h.2⟩
theorem Cs.grown {w w1 w2 : World} {l : List (Nat × Value)} {r : Nat} (h : Cs w w1 l) (g : w1.grownBy w2 (some r)) (hr : ∀ p ∈ l, r ≠ p.1) (hB : w.heap.size ≤ r) : Cs w w2 l :=
  ⟨h.1.grown g h.1.size (fun x hx => by simp at hx; omega), fun p hp => ⟨(h.2 p hp).1.other g (hr p hp), (h.2 p hp).2⟩⟩
theorem Cs.put {w w1 : World} {l : List (Nat × Value)} {g : Nat} {v : Value} (h : Cs w w1 ((g, v) :: l)) (hr : ∀ p ∈ l, g ≠ p.1) (x : Value) : Cs w (w1.setCell ⟨g, 0, none⟩ x) ((g, x) :: l) := by
  have h0 := h.2 (g, v) (by simp)
  have ht : Cs w w1 l := ⟨h.1, fun p hp => h.2 p (List.mem_cons_of_mem _ hp)⟩
  have h2 := ht.set (r := g) hr h0.2 0 x
  refine ⟨h2.1, fun p hp => ?_⟩
  rcases List.mem_cons.1 hp with rfl | hp
  · refine ⟨⟨World.cell?_setCell_same' _ _ _ (by rw [h0.1.1]; rfl), by rw [World.frozen?_setCell]; exact h0.1.2.1, ?_⟩, h0.2⟩
    exact Nat.lt_of_lt_of_le h0.1.2.2 (grown_set w1 ⟨g, 0, none⟩ x).size
  · exact h2.2 p hp
theorem Cs.done {w w1 : World} {l : List (Nat × Value)} (h : Cs w w1 l) {g : Nat} (hg : w.heap.size ≤ g) (x : Value) : Below w.heap.size w (w1.setCell ⟨g, 0, none⟩ x) := h.1.setCell (p := ⟨g, 0, none⟩) hg x
theorem Cs.at1 {w w1 : World} {g1 : Nat} {v1 : Value} {l : List (Nat × Value)} (h : Cs w w1 ((g1, v1) :: l)) : w1.cell? ⟨g1, 0, none⟩ = some v1 ∧ w1.frozen? ⟨g1, 0, none⟩ = false ∧ g1 < w1.heap.size := (h.2 (g1, v1) (by simp)).1
theorem Cs.tail {w w1 : World} {g1 : Nat × Value} {l : List (Nat × Value)} (h : Cs w w1 (g1 :: l)) : Cs w w1 l := ⟨h.1, fun p hp => h.2 p (List.mem_cons_of_mem _ hp)⟩
theorem Cs.at2 {w w1 : World} {g1 g2 : Nat} {v1 v2 : Value} {l : List (Nat × Value)} (h : Cs w w1 ((g1, v1) :: (g2, v2) :: l)) :
    (w1.cell? ⟨g1, 0, none⟩ = some v1 ∧ w1.frozen? ⟨g1, 0, none⟩ = false ∧ g1 < w1.heap.size) ∧ (w1.cell? ⟨g2, 0, none⟩ = some v2 ∧ w1.frozen? ⟨g2, 0, none⟩ = false ∧ g2 < w1.heap.size) := ⟨h.at1, h.tail.at1⟩
theorem Cs.at3 {w w1 : World} {g1 g2 g3 : Nat} {v1 v2 v3 : Value} {l : List (Nat × Value)} (h : Cs w w1 ((g1, v1) :: (g2, v2) :: (g3, v3) :: l)) :
    (w1.cell? ⟨g1, 0, none⟩ = some v1 ∧ w1.frozen? ⟨g1, 0, none⟩ = false ∧ g1 < w1.heap.size) ∧ (w1.cell? ⟨g2, 0, none⟩ = some v2 ∧ w1.frozen? ⟨g2, 0, none⟩ = false ∧ g2 < w1.heap.size) ∧
    (w1.cell? ⟨g3, 0, none⟩ = some v3 ∧ w1.frozen? ⟨g3, 0, none⟩ = false ∧ g3 < w1.heap.size) := ⟨h.at1, h.tail.at1, h.tail.tail.at1⟩

theorem Cs.two (w : World) (v v2 : Value) (T T2 : TypeId) : Cs w ((w.alloc (.cells #[v] T)).alloc (.cells #[v2] T2)) [(w.heap.size + 1, v2), (w.heap.size, v)] :=
  ((Cs.nil w).new v T rfl).new v2 T2 (by simp)
theorem Cs.three (w : World) (v v2 v3 : Value) (T T2 T3 : TypeId) : Cs w (((w.alloc (.cells #[v] T)).alloc (.cells #[v2] T2)).alloc (.cells #[v3] T3)) [(w.heap.size + 2, v3), (w.heap.size + 1, v2), (w.heap.size, v)] :=
  (((Cs.nil w).new v T rfl).new v2 T2 (by simp)).new v3 T3 (by simp)

/-- A list of ints and a bool are returned. -/
def RetNB (E : TypeId) (B : Nat) (w : World) (zs : List Int) (ok : Bool) (e : Ending) (w' : World) : Prop :=
  ∃ A c, e = .returned (.tuple #[.slice A zs.length c, .bool ok]) ∧ OwnG (Value.int .i64) E B w' A c zs ∧ Below B w w'
theorem RetNB.of {E : TypeId} {B : Nat} {w : World} {zs : List Int} {ok : Bool} {e : Ending} {w' : World} (h : RetIB E B w zs ok e w') : RetNB E B w zs ok e w' := h

/-! What the functions return. -/

/-- The sum of two engines of the same shape. -/
def addF (cs ds : List ByteArray) : Option (List ByteArray) :=
  if engV cs && (engV ds && (decide (cs.length = ds.length) && decide (hsz cs = hsz ds))) then some (eng (hsz cs) (plusV (cvs cs) (cvs ds))) else none
theorem addF_none {cs ds : List ByteArray} (h : (engV cs && (engV ds && (decide (cs.length = ds.length) && decide (hsz cs = hsz ds)))) = false) : addF cs ds = none := by rw [addF, if_neg (by rw [h]; simp)]
theorem addF_some {cs ds : List ByteArray} (h1 : engV cs = true) (h2 : engV ds = true) (h3 : cs.length = ds.length) (h4 : hsz cs = hsz ds) : addF cs ds = some (eng (hsz cs) (plusV (cvs cs) (cvs ds))) := by
  rw [addF, if_pos (by simp [h1, h2, h3, h4])]

/-- The engine of another width. -/
def widF (cs : List ByteArray) (N : Int) : Option (List ByteArray) := if engV cs then setE ((cvs cs).map (sgn (hsz cs))) N else none

theorem setE_some {vs : List Int} {N : Int} (h1 : 1 ≤ N) (h2 : N ≤ 12) (h : fitsAll vs N.toNat = true) : setE vs N = some (eng N.toNat vs) := by rw [setE, if_pos (by simp [h1, h2, h])]
theorem setE_out {vs : List Int} {N : Int} (h : (decide (1 ≤ N) && decide (N ≤ 12)) = false) : setE vs N = none := by rw [setE, if_neg (by rw [h]; simp)]
theorem setE_bad {vs : List Int} {N : Int} {k : Nat} {x : Int} (hx : vs[k]? = some x) (h : fitsB x N.toNat = false) : setE vs N = none := by
  have : fitsAll vs N.toNat = false := by
    rw [fitsAll, List.all_eq_false]
    exact ⟨x, List.mem_of_getElem? hx, by simp [h]⟩
  rw [setE, if_neg (by rw [this]; simp)]

/-- The column of a width for a number. -/
def colO (n N : Int) : Option ByteArray := if (decide (1 ≤ N) && decide (N ≤ 12)) && fitsB n N.toNat then some (showC N.toNat n) else none

/-- The polynomial that an engine holds. -/
def readF (cs : List ByteArray) : Option (List Int) := if engV cs then chk ((cvs cs).map (sgn (hsz cs))) else none

/-- The results of an engine that is turned by f, one after the other. -/
def iterF (f : List Int → List Int) : Nat → List Int → List Int
  | 0, vs => vs
  | n + 1, vs => iterF f n (f vs)
theorem iterF_succ (f : List Int → List Int) : ∀ (n : Nat) (vs : List Int), iterF f (n + 1) vs = f (iterF f n vs)
  | 0, _ => rfl
  | n + 1, vs => by rw [iterF, iterF_succ f n (f vs)]; rfl
theorem iterF_length {f : List Int → List Int} (h : ∀ vs, (f vs).length = vs.length) : ∀ (n : Nat) (vs : List Int), (iterF f n vs).length = vs.length
  | 0, _ => rfl
  | n + 1, vs => by rw [iterF, iterF_length h n, h]
def runF (f : List Int → List Int) (N : Int) (cs : List ByteArray) : Option (List Int) :=
  if engV cs && (decide (0 ≤ N) && decide (N ≤ 60)) then some (tab N.toNat fun i => sgn (hsz cs) ((iterF f i (cvs cs)).getD 0 0)) else none
theorem runF_none {f : List Int → List Int} {N : Int} {cs : List ByteArray} (h : (engV cs && (decide (0 ≤ N) && decide (N ≤ 60))) = false) : runF f N cs = none := by rw [runF, if_neg (by rw [h]; simp)]
theorem runF_some {f : List Int → List Int} {N : Int} {cs : List ByteArray} (h : engV cs = true) (h0 : 0 ≤ N) (h1 : N ≤ 60) : runF f N cs = some (tab N.toNat fun i => sgn (hsz cs) ((iterF f i (cvs cs)).getD 0 0)) := by
  rw [runF, if_pos (by simp [h, h0, h1])]

end Go.Proofs.Ytcalheieakppmaa
