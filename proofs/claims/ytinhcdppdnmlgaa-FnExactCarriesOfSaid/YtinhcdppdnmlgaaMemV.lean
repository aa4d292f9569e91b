/- Words for memory: a slice of the call's own that reads as a list, whatever its elements, each in one cell. -/
import Derived.Test.YtinhcdppdnmlgaaGrB
namespace Go.Proofs.Ytinhcdppdnmlgaa
open Go.RowKit
set_option maxRecDepth 4000

/-- The slice of the elements xs (each as f lays it, in one cell), that the call itself has made at block B or later. -/
def OwnG {α : Type} (f : α → Value) (E : TypeId) (B : Nat) (w : World) (A : Option Addr) (c : Nat) (xs : List α) : Prop :=
  xs.length ≤ 17592186044416 ∧ w.ownsRow B E 1 (.slice A xs.length c) xs.length (xs.map f)

section
variable {α : Type} {f : α → Value} {E : TypeId} {B : Nat} {w w' : World} {A : Option Addr} {c : Nat} {xs : List α}

/-- The slice reads as the elements xs. -/
def SG (f : α → Value) (w : World) (A : Option Addr) (xs : List α) : Prop := SR w A (xs.map f)

theorem SG.at_ (h : SG f w A xs) {k : Nat} (hk : k < xs.length) : ∃ x b off, xs[k]? = some x ∧ A = some ⟨b, off, none⟩ ∧ b < w.heap.size ∧ w.cell? ⟨b, off + k, none⟩ = some (f x) := by
  obtain ⟨b, off, e, hb, hc⟩ := h.2 k (f xs[k]) (by simp [hk])
  exact ⟨xs[k], b, off, by simp [hk], e, hb, hc⟩
theorem SG.nonempty (h : SG f w A xs) (hn : 0 < xs.length) : ∃ b off, A = some ⟨b, off, none⟩ ∧ b < w.heap.size := by
  obtain ⟨x, b, off, _, e, hb, _⟩ := h.at_ hn
  exact ⟨b, off, e, hb⟩
theorem SG.len (h : SG f w A xs) : xs.length ≤ 17592186044416 := by have := h.1; simpa using this
theorem SG.below (h : SG f w A xs) (hb : Below w.heap.size w w') : SG f w' A xs := SR.below h hb
theorem SG.alloc (h : SG f w A xs) (o : Obj) : SG f (w.alloc o) A xs := h.below ((Below.refl _ _).alloc (Nat.le_refl _) o)
theorem SG.drew (h : SG f w A xs) : SG f w.drew A xs := h
theorem SG.drewN (h : SG f w A xs) (n : Nat) : SG f (w.drewN n) A xs := h
theorem SG.grown {g : Nat} (h : SG f w A xs) (hg : w.grownBy w' (some g)) (ho : Off A g) : SG f w' A xs :=
  ⟨h.1, fun k v hk => by
    obtain ⟨b, off, e, hb, hv⟩ := h.2 k v hk
    have hne := ho _ e
    exact ⟨b, off, e, Nat.lt_of_lt_of_le hb hg.size, hg.cell hv (by simpa using hne)⟩⟩
theorem SG.cells (h : SG f w A xs) {b off : Nat} (hA : A = some ⟨b, off, none⟩) : ∀ (j : Nat) (u : Value), (xs.map f)[j]? = some u → w.cell? ((⟨b, off, none⟩ : Addr).add j) = some u := by
  intro j u hu
  obtain ⟨b', off', e, _, hc⟩ := h.2 j u hu
  rw [hA] at e
  simp only [Option.some.injEq, Addr.mk.injEq, and_true] at e
  obtain ⟨rfl, rfl⟩ := e
  have hadd : (⟨b, off, none⟩ : Addr).add j = ⟨b, off + j, none⟩ := by unfold Addr.add; split <;> simp_all
  rw [hadd]; exact hc
theorem SG.drop (h : SG f w A xs) {b off : Nat} (hA : A = some ⟨b, off, none⟩) (k : Nat) : SG f w (some ⟨b, off + k, none⟩) (xs.drop k) := by
  subst hA
  refine ⟨by have := h.1; simp at this ⊢; omega, fun j v hj => ?_⟩
  rw [List.map_drop, List.getElem?_drop] at hj
  obtain ⟨b', off', e, hb, hc⟩ := h.2 (k + j) v hj
  simp only [Option.some.injEq, Addr.mk.injEq, and_true] at e
  obtain ⟨rfl, rfl⟩ := e
  exact ⟨b, off + k, rfl, hb, by rw [Nat.add_assoc]; exact hc⟩

theorem OwnG.sg (h : OwnG f E B w A c xs) : SG f w A xs := by
  refine ⟨by simpa using h.1, fun k v hk => ?_⟩
  have ho := h.2
  rcases ho.2 with ⟨h1, h2⟩ | ⟨g, cap, cur, h1, h2, h3, h4, h5, h6, h7⟩
  · have : xs = [] := List.eq_nil_of_length_eq_zero h2
    subst this
    simp at hk
  · simp only [Value.slice.injEq] at h1
    obtain ⟨hA, _, hc⟩ := h1
    subst hA; subst hc
    have hk' : k < xs.length := by
      rcases Nat.lt_or_ge k xs.length with hlt | hge
      · exact hlt
      · rw [List.getElem?_eq_none (by simpa using hge)] at hk; cases hk
    refine ⟨g, 0, rfl, (Array.getElem?_eq_some_iff.1 h3).1, ?_⟩
    have := ho.cellAt (g := g) k (by omega)
    rw [Nat.zero_add, this]; exact hk

theorem OwnG.at_ (h : OwnG f E B w A c xs) {k : Nat} (hk : k < xs.length) :
    ∃ g x, xs[k]? = some x ∧ A = some ⟨g, 0, none⟩ ∧ w.cell? ⟨g, k, none⟩ = some (f x) ∧ w.frozen? ⟨g, k, none⟩ = false := by
  rcases h.2.2 with ⟨_, h0⟩ | ⟨g, cap, cur, hv, _⟩
  · omega
  · simp only [Value.slice.injEq] at hv
    obtain ⟨rfl, _, rfl⟩ := hv
    refine ⟨g, xs[k], by simp [hk], rfl, ?_, h.2.frozenAt k⟩
    rw [h.2.cellAt k (by omega)]
    simp [hk]

theorem OwnG.set {g : Nat} (h : OwnG f E B w (some ⟨g, 0, none⟩) c xs) (k : Nat) (x : α) :
    OwnG f E B (w.setCell ⟨g, k, none⟩ (f x)) (some ⟨g, 0, none⟩) c (xs.set k x) := by
  have hs := h.2.stored k (f x)
  refine ⟨by rw [List.length_set]; exact h.1, ?_⟩
  rw [List.length_set, List.map_set]
  exact hs.1

theorem OwnG.keep_lo {row : Option Nat} (h : OwnG f E B w A c xs) (hg : w.grownBy w' row) (hr : ∀ r, row = some r → r < B) : OwnG f E B w' A c xs := by
  refine ⟨h.1, h.2.kept hg ?_⟩
  cases hv : (Value.slice A xs.length c).ownBlock with
  | none => exact .inl rfl
  | some g =>
    right
    intro e
    have := (h.2.lt g hv).1
    have := hr g e.symm
    omega

theorem OwnG.keep_hi {row : Option Nat} {U : Nat} (h : OwnG f E B w A c xs) (hu : ∀ g, (Value.slice A xs.length c).ownBlock = some g → g < U) (hg : w.grownBy w' row) (hr : ∀ r, row = some r → U ≤ r) : OwnG f E B w' A c xs := by
  refine ⟨h.1, h.2.kept hg ?_⟩
  cases hv : (Value.slice A xs.length c).ownBlock with
  | none => exact .inl rfl
  | some g =>
    right
    intro e
    have := hu g hv
    have := hr g e.symm
    omega

theorem OwnG.below (h : OwnG f E B w A c xs) (hb : Below w.heap.size w w') : OwnG f E B w' A c xs := by
  refine ⟨h.1, h.2.kept (row := none) ⟨hb.os, hb.tape, hb.output, hb.size, fun k hk _ => hb.block k hk⟩ ?_⟩
  cases hv : (Value.slice A xs.length c).ownBlock <;> simp

theorem OwnG.low {B' : Nat} (h : OwnG f E B w A c xs) (hB : B' ≤ B) : OwnG f E B' w A c xs := by
  refine ⟨h.1, h.2.1, ?_⟩
  rcases h.2.2 with h1 | ⟨g, cap, cur, h1, h2, r⟩
  · exact .inl h1
  · exact .inr ⟨g, cap, cur, h1, by omega, r⟩

theorem OwnG.lt (h : OwnG f E B w A c xs) {g : Nat} (hg : (Value.slice A xs.length c).ownBlock = some g) : B ≤ g ∧ g < w.heap.size := h.2.lt g hg
theorem OwnG.off (h : OwnG f E B w A c xs) {g : Nat} (hg : g < B) : Off A g := by
  intro a ha
  subst ha
  have := (h.2.lt a.block rfl).1
  omega
theorem OwnG.cap (h : OwnG f E B w A c xs) : xs.length ≤ c := by
  rcases h.2.2 with ⟨h1, h2⟩ | ⟨g, cap, cur, hv, _, _, hc, _⟩
  · simp only [Value.slice.injEq] at h1; omega
  · simp only [Value.slice.injEq] at hv; omega
theorem OwnG.addr (h : OwnG f E B w A c xs) (hn : 0 < xs.length) : ∃ g, A = some ⟨g, 0, none⟩ ∧ B ≤ g ∧ g < w.heap.size := by
  rcases h.2.2 with ⟨_, h0⟩ | ⟨g, cap, cur, hv, hg, hh, _⟩
  · omega
  · simp only [Value.slice.injEq] at hv
    obtain ⟨rfl, _, rfl⟩ := hv
    exact ⟨g, rfl, hg, (Array.getElem?_eq_some_iff.1 hh).1⟩

theorem OwnG.nil_ (f : α → Value) (E : TypeId) (B : Nat) (w : World) : OwnG f E B w none 0 [] := ⟨by simp, World.ownsRow_nil _ _ _ _⟩
theorem OwnG.alloc (h : OwnG f E B w A c xs) (o : Obj) : OwnG f E B (w.alloc o) A c xs := ⟨h.1, h.2.alloc o⟩
theorem OwnG.drew (h : OwnG f E B w A c xs) : OwnG f E B w.drew A c xs := h
theorem OwnG.drewN (h : OwnG f E B w A c xs) (n : Nat) : OwnG f E B (w.drewN n) A c xs := h
theorem OwnG.lit0 (f : α → Value) (E : TypeId) (w : World) : OwnG f E w.heap.size (w.alloc (.cells #[] E)) (some ⟨w.heap.size, 0, none⟩) 0 [] :=
  ⟨by simp, World.ownsRow_lit w #[] 0 (Nat.le_refl _) (by simp) rfl⟩

/-- A row as make lays it. -/
theorem OwnG.made {g n : Nat} (z : α) (hz : (f z).cells = #[f z]) (h : w.ownsRow B E 1 (.slice (some ⟨g, 0, none⟩) n n) n (madeCells (f z).cells (n * 1)).toList) (hn : n ≤ 17592186044416) :
    OwnG f E B w (some ⟨g, 0, none⟩) n (List.replicate n z) := by
  refine ⟨by simpa using hn, ?_⟩
  simp only [List.length_replicate, List.map_replicate]
  rw [hz] at h
  simpa [toList_madeCells_one] using h

/-- A result is of the call's own. -/
theorem OwnG.of_row {n : Nat} {A : Option Addr} {c : Nat} (h : w.ownsRow B E 1 (.slice A n c) n (xs.map f)) (hn : xs.length = n) (hl : n ≤ 17592186044416) : OwnG f E B w A c xs := by
  subst hn
  exact ⟨hl, h⟩
end

/-- The call has returned a slice of its own that reads xs; below B nothing has changed. -/
def RetG {α : Type} (f : α → Value) (E : TypeId) (B : Nat) (w : World) (xs : List α) (e : Ending) (w' : World) : Prop :=
  ∃ A c, e = .returned (.slice A xs.length c) ∧ OwnG f E B w' A c xs ∧ Below B w w'

theorem RetG.own {α : Type} {f : α → Value} {E : TypeId} {B n c : Nat} {A : Option Addr} {w w' : World} {xs : List α} (h : OwnG f E B w' A c xs) (hn : n = xs.length) (hb : Below B w w') :
    RetG f E B w xs (.returned (.slice A n c)) w' := by
  subst hn
  exact ⟨_, _, rfl, h, hb⟩

/-- append of one element onto a slice of the call's own: the element lies in a block of its own, at address ad. -/
theorem wpList_appG {α : Type} {f : α → Value} {P : Program} {w : World} {ops : Array Oper} {rest : List Oper} {o : Oper} {a : Act} {Q : Exit → Act → World → Prop} (hg : o.guard = none) (s x : Operand) (t E : TypeId)
    (ho : o.op = .call { callee := .builtin .append, args := #[s, x], argTypes := #[t, t] })
    (B : Nat) (i : TypeInfo) (z : Value) (by_ : Nat) (ht : P.underlying t = some (.slice E)) (hi : P.info? E = some i) (hz : i.zero = some z) (h1 : i.size = 1) (h8 : i.bytes = by_) (hzc : z.cells.size = 1) (hb16 : by_ ≤ 100)
    (n : Nat) (A : Option Addr) (c : Nat) (zs : List α) (g : Nat) (y : α) (hy1 : (f y).oneCell' = true) (hs : a.eval s = .slice A n c) (hx : a.eval x = .slice (some ⟨g, 0, none⟩) 1 1) (hn : zs.length = n)
    (hc : w.cell? ⟨g, 0, none⟩ = some (f y)) (hown : OwnG f E B w A c zs) (hlen : n < 1000000) (hB : B ≤ w.heap.size)
    (h : ∀ A' c' w', OwnG f E B w' A' c' (zs ++ [y]) → w.grownBy w' (Value.slice A n c).ownBlock → Below B w w' → w.heap.size ≤ w'.heap.size → wpList P ops Q rest (a.put o.dst (.slice A' (n + 1) c')) w') :
    wpList P ops Q (o :: rest) a w := by
  subst hn
  refine wpList_append_own _ hg s x t ho B E i z 1 by_ ht hi hz h1 h8 hzc (by decide) (.slice A zs.length c) zs.length (zs.map f) hs hown.2 ⟨g, 0, none⟩ 1 1 [f y] hx rfl ?_ ?_ (by unfold maxLen; omega) ?_ hB ?_
  · intro j u hj
    match j, hj with
    | 0, hj =>
      simp at hj; subst hj
      have : (⟨g, 0, none⟩ : Addr).add 0 = ⟨g, 0, none⟩ := by simp [Addr.add]
      rw [this]; exact hc
  · intro u hu; simp at hu; subst hu; exact hy1
  · have := Nat.mul_le_mul (show zs.length + 1 ≤ 1000000 by omega) hb16
    omega
  · intro v' w' ho' hgr hnil
    have hlt := hown.2.lt
    have hbel : Below B w w' := (Below.refl _ _).grown hgr hB (fun k hk => (hlt k hk).1)
    rcases ho'.2 with ⟨_, h0⟩ | ⟨g, cap, cur, hv, h2⟩
    · omega
    · subst hv
      refine h _ _ _ ⟨by simp; omega, ?_⟩ hgr hbel hbel.size
      simpa using ho'

theorem grown_set (w : World) (p : Addr) (v : Value) : w.grownBy (w.setCell p v) (some p.block) :=
  ⟨rfl, rfl, rfl, by simp [World.setCell], fun k hk hne => Below.heap_setCell _ _ _ _ (by
    intro e
    subst e
    exact hne rfl)⟩

/-- The cells of a boxed argument (block B) and of a result (block B + 1), B being the size of the world before the call. -/
def Fr (w w1 : World) (v v2 : Value) : Prop :=
  (w1.cell? ⟨w.heap.size, 0, none⟩ = some v ∧ w1.frozen? ⟨w.heap.size, 0, none⟩ = false) ∧ (w1.cell? ⟨w.heap.size + 1, 0, none⟩ = some v2 ∧ w1.frozen? ⟨w.heap.size + 1, 0, none⟩ = false) ∧ w.heap.size + 2 ≤ w1.heap.size ∧ Below w.heap.size w w1

theorem Fr.start (w : World) (v v2 : Value) (T T2 : TypeId) : Fr w ((w.alloc (.cells #[v] T)).alloc (.cells #[v2] T2)) v v2 := by
  have h1 : (w.alloc (.cells #[v] T)).heap.size = w.heap.size + 1 := by simp
  have e2 : ((w.alloc (.cells #[v] T)).alloc (.cells #[v2] T2)).heap[w.heap.size + 1]? = some (.cells #[v2] T2 (0, 0)) := by
    have := heap_alloc_new (w.alloc (.cells #[v] T)) (.cells #[v2] T2)
    rwa [h1] at this
  have e1 : ((w.alloc (.cells #[v] T)).alloc (.cells #[v2] T2)).heap[w.heap.size]? = some (.cells #[v] T (0, 0)) := by
    rw [Below.heap_alloc _ _ _ (by rw [h1]; omega)]
    exact heap_alloc_new w _
  refine ⟨⟨?_, ?_⟩, ⟨?_, ?_⟩, by simp, ((Below.refl _ _).alloc (Nat.le_refl _) _).alloc (by rw [h1]; omega) _⟩
  · rw [cell_of_row _ _ _ _ _ _ e1]; rfl
  · exact frozen_of_row _ _ _ _ _ e1
  · rw [cell_of_row _ _ _ _ _ _ e2]; rfl
  · exact frozen_of_row _ _ _ _ _ e2

theorem Fr.below {w w1 w2 : World} {v v2 : Value} (h : Fr w w1 v v2) (b : Below w1.heap.size w1 w2) : Fr w w2 v v2 := by
  obtain ⟨⟨a1, a2⟩, ⟨a3, a4⟩, a5, a6⟩ := h
  refine ⟨⟨?_, ?_⟩, ⟨?_, ?_⟩, Nat.le_trans a5 b.size, a6.trans (b.mono a6.size)⟩
  · rw [b.cell (p := ⟨w.heap.size, 0, none⟩) (show w.heap.size < w1.heap.size by omega)]; exact a1
  · rw [b.frozen (p := ⟨w.heap.size, 0, none⟩) (show w.heap.size < w1.heap.size by omega)]; exact a2
  · rw [b.cell (p := ⟨w.heap.size + 1, 0, none⟩) (show w.heap.size + 1 < w1.heap.size by omega)]; exact a3
  · rw [b.frozen (p := ⟨w.heap.size + 1, 0, none⟩) (show w.heap.size + 1 < w1.heap.size by omega)]; exact a4

theorem Fr.grown {w w1 w2 : World} {v v2 : Value} {r : Nat} (h : Fr w w1 v v2) (g : w1.grownBy w2 (some r)) (hr : w.heap.size + 2 ≤ r) : Fr w w2 v v2 := by
  have b : Below (w.heap.size + 2) w1 w2 := ⟨g.os, g.tape, g.output, g.size, fun k hk => g.block k (Nat.lt_of_lt_of_le hk h.2.2.1) (by simp; omega)⟩
  obtain ⟨⟨a1, a2⟩, ⟨a3, a4⟩, a5, a6⟩ := h
  refine ⟨⟨?_, ?_⟩, ⟨?_, ?_⟩, Nat.le_trans a5 b.size, a6.trans (b.mono (by omega))⟩
  · rw [b.cell (p := ⟨w.heap.size, 0, none⟩) (show w.heap.size < w.heap.size + 2 by omega)]; exact a1
  · rw [b.frozen (p := ⟨w.heap.size, 0, none⟩) (show w.heap.size < w.heap.size + 2 by omega)]; exact a2
  · rw [b.cell (p := ⟨w.heap.size + 1, 0, none⟩) (show w.heap.size + 1 < w.heap.size + 2 by omega)]; exact a3
  · rw [b.frozen (p := ⟨w.heap.size + 1, 0, none⟩) (show w.heap.size + 1 < w.heap.size + 2 by omega)]; exact a4

theorem Fr.alloc {w w1 : World} {v v2 : Value} (h : Fr w w1 v v2) (o : Obj) : Fr w (w1.alloc o) v v2 := h.below ((Below.refl _ _).alloc (Nat.le_refl _) o)

theorem Fr.done {w w1 : World} {v v2 : Value} (h : Fr w w1 v v2) (x : Value) : Below w.heap.size w (w1.setCell ⟨w.heap.size + 1, 0, none⟩ x) := h.2.2.2.setCell (p := ⟨w.heap.size + 1, 0, none⟩) (show w.heap.size ≤ w.heap.size + 1 by omega) x

/-- Block g holds one value, and may be written. -/
def Cl (w : World) (g : Nat) (v : Value) : Prop := w.cell? ⟨g, 0, none⟩ = some v ∧ w.frozen? ⟨g, 0, none⟩ = false ∧ g < w.heap.size

theorem Cl.new (w : World) (v : Value) (T : TypeId) : Cl (w.alloc (.cells #[v] T)) w.heap.size v := by
  have hg := heap_alloc_new w (.cells #[v] T)
  refine ⟨?_, frozen_of_row _ _ _ _ _ hg, by simp⟩
  rw [cell_of_row _ _ _ _ _ _ hg]; rfl
theorem Cl.below {w w' : World} {g : Nat} {v : Value} (h : Cl w g v) (b : Below w.heap.size w w') : Cl w' g v := by
  refine ⟨?_, ?_, Nat.lt_of_lt_of_le h.2.2 b.size⟩
  · rw [b.cell (p := ⟨g, 0, none⟩) h.2.2]; exact h.1
  · rw [b.frozen (p := ⟨g, 0, none⟩) h.2.2]; exact h.2.1
theorem Cl.alloc {w : World} {g : Nat} {v : Value} (h : Cl w g v) (o : Obj) : Cl (w.alloc o) g v := h.below ((Below.refl _ _).alloc (Nat.le_refl _) o)
theorem Cl.drew {w : World} {g : Nat} {v : Value} (h : Cl w g v) : Cl w.drew g v := h
theorem Cl.other {w w' : World} {g r : Nat} {v : Value} (h : Cl w g v) (gr : w.grownBy w' (some r)) (hr : r ≠ g) : Cl w' g v := by
  have hb : w'.heap[g]? = w.heap[g]? := gr.block g h.2.2 (by simpa using fun e => hr e.symm)
  refine ⟨?_, ?_, Nat.lt_of_lt_of_le h.2.2 gr.size⟩
  · rw [World.cell?_of_block (w := w) hb]; exact h.1
  · rw [World.frozen?_of_block (w := w) hb]; exact h.2.1

/-! Strings, bytes, and whatever lies in one cell. -/
abbrev SS (w : World) (A : Option Addr) (cs : List ByteArray) : Prop := SG Value.string w A cs
abbrev OwnS (E : TypeId) (B : Nat) (w : World) (A : Option Addr) (c : Nat) (cs : List ByteArray) : Prop := OwnG Value.string E B w A c cs
abbrev OwnB (E : TypeId) (B : Nat) (w : World) (A : Option Addr) (c : Nat) (zs : List Int) : Prop := OwnG (Value.int .u8) E B w A c zs

theorem strs_one (cs : List ByteArray) : ∀ u ∈ cs.map Value.string, u.oneCell' = true := by
  intro u hu
  obtain ⟨x, _, rfl⟩ := List.mem_map.1 hu
  rfl

end Go.Proofs.Ytinhcdppdnmlgaa
