/- Words for memory: a slice that reads as a list of cells; a slice of the call's own. -/
import Derived.WalkKit
import Derived.WalkSpells
import Derived.WalkLawsBesides
namespace Go.Proofs.Ytinhcdppdnmlgaa
open Go.RowKit
set_option maxRecDepth 4000

def sliceLen : Value → Nat
  | .slice _ n _ => n
  | _ => 0

theorem hd {p : Prop} (h : p) : Hid p := h

theorem take_set_succ {α : Type} {xs ys : List α} {k : Nat} {v : α} (hk : k < xs.length) (h : xs.take k = ys.take k) (h2 : ys[k]? = some v) : (xs.set k v).take (k + 1) = ys.take (k + 1) := by
  obtain ⟨hy, rfl⟩ := List.getElem?_eq_some_iff.1 h2
  rw [List.take_succ_eq_append_getElem (by simpa using hk), List.take_succ_eq_append_getElem hy, List.take_set_of_le (Nat.le_refl _), h]
  simp

theorem ret_int {k : IntKind} {a b : Int} (h : a = b) : Ending.returned (.int k a) = .returned (.int k b) := by rw [h]
theorem ret_bool {a b : Bool} (h : a = b) : Ending.returned (.bool a) = .returned (.bool b) := by rw [h]

/-- The slice with address A (no address where it is empty) reads as the cells vs, in the world w. -/
def SR (w : World) (A : Option Addr) (vs : List Value) : Prop :=
  vs.length ≤ 17592186044416 ∧ ∀ (k : Nat) (v : Value), vs[k]? = some v → ∃ b off, A = some ⟨b, off, none⟩ ∧ b < w.heap.size ∧ w.cell? ⟨b, off + k, none⟩ = some v

section
variable {w w' : World} {A : Option Addr} {vs : List Value}

theorem SR.keep (h : SR w A vs) (hs : w.heap.size ≤ w'.heap.size) (hc : ∀ p : Addr, p.block < w.heap.size → w'.cell? p = w.cell? p) : SR w' A vs :=
  ⟨h.1, fun k v hk => by
    obtain ⟨b, off, e, hb, hv⟩ := h.2 k v hk
    exact ⟨b, off, e, by omega, (hc _ hb).trans hv⟩⟩

theorem SR.below (h : SR w A vs) (hb : Below w.heap.size w w') : SR w' A vs := h.keep hb.size fun _ hp => hb.cell hp

/-- Kept over a step that leaves all blocks below B as they were, if the slice lies below B. -/
def SRB (B : Nat) (w : World) (A : Option Addr) (vs : List Value) : Prop :=
  vs.length ≤ 17592186044416 ∧ ∀ (k : Nat) (v : Value), vs[k]? = some v → ∃ b off, A = some ⟨b, off, none⟩ ∧ b < B ∧ b < w.heap.size ∧ w.cell? ⟨b, off + k, none⟩ = some v

theorem SRB.sr {B : Nat} (h : SRB B w A vs) : SR w A vs :=
  ⟨h.1, fun k v hk => by
    obtain ⟨b, off, e, _, hb, hv⟩ := h.2 k v hk
    exact ⟨b, off, e, hb, hv⟩⟩

theorem SR.srb (h : SR w A vs) : SRB w.heap.size w A vs :=
  ⟨h.1, fun k v hk => by
    obtain ⟨b, off, e, hb, hv⟩ := h.2 k v hk
    exact ⟨b, off, e, hb, hb, hv⟩⟩

theorem SRB.below {B : Nat} (h : SRB B w A vs) (hb : Below B w w') : SRB B w' A vs :=
  ⟨h.1, fun k v hk => by
    obtain ⟨b, off, e, h1, h2, hv⟩ := h.2 k v hk
    exact ⟨b, off, e, h1, Nat.lt_of_lt_of_le h2 hb.size, (hb.cell h1).trans hv⟩⟩

theorem SRB.more {B B' : Nat} (h : SRB B w A vs) (hB : B ≤ B') : SRB B' w A vs :=
  ⟨h.1, fun k v hk => by
    obtain ⟨b, off, e, h1, h2, hv⟩ := h.2 k v hk
    exact ⟨b, off, e, Nat.lt_of_lt_of_le h1 hB, h2, hv⟩⟩

theorem SR.nil_ (w : World) (A : Option Addr) : SR w A [] := ⟨by simp, fun k v h => by simp at h⟩

end

/-- The slice reads as the numbers zs. -/
def SI (w : World) (A : Option Addr) (zs : List Int) : Prop := SR w A (zs.map (Value.int .i64))

theorem SI.at_ {w : World} {A : Option Addr} {zs : List Int} {k : Nat} (h : SI w A zs) (hk : k < zs.length) :
    ∃ x b off, zs[k]? = some x ∧ A = some ⟨b, off, none⟩ ∧ b < w.heap.size ∧ w.cell? ⟨b, off + k, none⟩ = some (.int .i64 x) := by
  obtain ⟨b, off, e, hb, hc⟩ := h.2 k (.int .i64 zs[k]) (by simp [hk])
  exact ⟨zs[k], b, off, by simp [hk], e, hb, hc⟩

theorem SI.nonempty {w : World} {A : Option Addr} {zs : List Int} (h : SI w A zs) (hn : 0 < zs.length) : ∃ b off, A = some ⟨b, off, none⟩ ∧ b < w.heap.size := by
  obtain ⟨x, b, off, _, e, hb, _⟩ := h.at_ hn
  exact ⟨b, off, e, hb⟩

theorem SI.len {w : World} {A : Option Addr} {zs : List Int} (h : SI w A zs) : zs.length ≤ 17592186044416 := by
  have := h.1; simpa using this

theorem SI.below {w w' : World} {A : Option Addr} {zs : List Int} (h : SI w A zs) (hb : Below w.heap.size w w') : SI w' A zs := SR.below h hb

/-- The slice of n elements of the element type E, one cell each, that the call itself has made at block B or later. -/
def OwnI (E : TypeId) (B : Nat) (w : World) (A : Option Addr) (c : Nat) (zs : List Int) : Prop :=
  zs.length ≤ 17592186044416 ∧ w.ownsRow B E 1 (.slice A zs.length c) zs.length (zs.map (Value.int .i64))

theorem OwnI.si {E : TypeId} {B : Nat} {w : World} {A : Option Addr} {c : Nat} {zs : List Int} (h : OwnI E B w A c zs) : SI w A zs := by
  refine ⟨by simpa using h.1, fun k v hk => ?_⟩
  have ho := h.2
  rcases ho.2 with ⟨h1, h2⟩ | ⟨g, cap, cur, h1, h2, h3, h4, h5, h6, h7⟩
  · have : zs = [] := List.eq_nil_of_length_eq_zero h2
    subst this
    simp at hk
  · simp only [Value.slice.injEq] at h1
    obtain ⟨hA, _, hc⟩ := h1
    subst hA; subst hc
    have hk' : k < zs.length := by
      rcases Nat.lt_or_ge k zs.length with hlt | hge
      · exact hlt
      · rw [List.getElem?_eq_none (by simpa using hge)] at hk; cases hk
    refine ⟨g, 0, rfl, (Array.getElem?_eq_some_iff.1 h3).1, ?_⟩
    have := ho.cellAt (g := g) k (by omega)
    rw [Nat.zero_add, this]; exact hk

/-- A row of n numbers, all of the call's own, at block g. -/
def OW (E : TypeId) (B : Nat) (w : World) (g n : Nat) (xs : List Int) : Prop :=
  xs.length = n ∧ n ≤ 17592186044416 ∧ w.ownsRow B E 1 (.slice (some ⟨g, 0, none⟩) n n) n (xs.map (Value.int .i64))

section
variable {E : TypeId} {B : Nat} {w w' : World} {g n : Nat} {xs : List Int}

theorem OW.cell (h : OW E B w g n xs) {k : Nat} (hk : k < n) : ∃ x, xs[k]? = some x ∧ w.cell? ⟨g, k, none⟩ = some (.int .i64 x) := by
  obtain ⟨h1, h2, h3⟩ := h
  have hk' : k < xs.length := by omega
  refine ⟨xs[k], List.getElem?_eq_getElem hk', ?_⟩
  rw [h3.cellAt k (by omega)]
  simp [hk']

theorem OW.frozen (h : OW E B w g n xs) (k : Nat) : w.frozen? ⟨g, k, none⟩ = false := h.2.2.frozenAt k

theorem OW.set (h : OW E B w g n xs) (k : Nat) (v : Int) : OW E B (w.setCell ⟨g, k, none⟩ (.int .i64 v)) g n (xs.set k v) := by
  refine ⟨by simpa using h.1, h.2.1, ?_⟩
  have := (h.2.2.stored k (.int .i64 v)).1
  rwa [← List.map_set] at this

theorem OW.lt (h : OW E B w g n xs) : B ≤ g ∧ g < w.heap.size := h.2.2.lt g rfl

/-- A zeroed row, as make lays it. -/
theorem OW.made (h : w.ownsRow B E 1 (.slice (some ⟨g, 0, none⟩) n n) n (madeCells (Value.int .i64 0).cells (n * 1)).toList) (hn : n ≤ 17592186044416) :
    OW E B w g n (List.replicate n 0) := by
  refine ⟨by simp, hn, ?_⟩
  simpa [toList_madeCells_one, Value.cells] using h

theorem OW.own (h : OW E B w g n xs) : OwnI E B w (some ⟨g, 0, none⟩) n xs := by
  obtain ⟨rfl, h2, h3⟩ := h
  exact ⟨h2, h3⟩

/-- Kept over what leaves all blocks up to g's as they were. -/
theorem OW.below (h : OW E B w g n xs) (hb : Below w.heap.size w w') : OW E B w' g n xs := by
  refine ⟨h.1, h.2.1, h.2.2.kept (row := none) ⟨hb.os, hb.tape, hb.output, hb.size, fun k hk _ => hb.block k hk⟩ (.inr (by simp [Value.ownBlock]))⟩

theorem OwnI.below {A : Option Addr} {c : Nat} (h : OwnI E B w A c xs) (hb : Below w.heap.size w w') : OwnI E B w' A c xs := by
  refine ⟨h.1, h.2.kept (row := none) ⟨hb.os, hb.tape, hb.output, hb.size, fun k hk _ => hb.block k hk⟩ ?_⟩
  cases hv : (Value.slice A xs.length c).ownBlock <;> simp

theorem OwnI.low {B' : Nat} {A : Option Addr} {c : Nat} (h : OwnI E B w A c xs) (hB : B' ≤ B) : OwnI E B' w A c xs := by
  refine ⟨h.1, h.2.1, ?_⟩
  rcases h.2.2 with h1 | ⟨g, cap, cur, h1, h2, r⟩
  · exact .inl h1
  · exact .inr ⟨g, cap, cur, h1, by omega, r⟩

theorem OwnI.nil_ (E : TypeId) (B : Nat) (w : World) : OwnI E B w none 0 [] := ⟨by simp, World.ownsRow_nil _ _ _ _⟩
end

/-- The call has returned a slice of its own that reads zs; below B nothing has changed. -/
def RetI (E : TypeId) (B : Nat) (w : World) (zs : List Int) (e : Ending) (w' : World) : Prop :=
  ∃ A c, e = .returned (.slice A zs.length c) ∧ OwnI E B w' A c zs ∧ Below B w w'

/-- The same with a bool beside it. -/
def RetIB (E : TypeId) (B : Nat) (w : World) (zs : List Int) (ok : Bool) (e : Ending) (w' : World) : Prop :=
  ∃ A c, e = .returned (.tuple #[.slice A zs.length c, .bool ok]) ∧ OwnI E B w' A c zs ∧ Below B w w'

theorem RetI.ow {E : TypeId} {B g n : Nat} {w w' : World} {xs zs : List Int} (h : OW E B w' g n xs) (hz : xs = zs) (hb : Below B w w') :
    RetI E B w zs (.returned (.slice (some ⟨g, 0, none⟩) n n)) w' := by
  subst hz
  obtain ⟨rfl, h2, h3⟩ := h
  exact ⟨_, _, rfl, ⟨h2, h3⟩, hb⟩

theorem RetI.own {E : TypeId} {B n c : Nat} {A : Option Addr} {w w' : World} {zs : List Int} (h : OwnI E B w' A c zs) (hn : n = zs.length) (hb : Below B w w') :
    RetI E B w zs (.returned (.slice A n c)) w' := by
  subst hn
  exact ⟨_, _, rfl, h, hb⟩

theorem RetI.empty {E : TypeId} {B : Nat} {w w' : World} {zs : List Int} (h : zs = []) (hb : Below B w w') : RetI E B w zs (.returned (.slice none 0 0)) w' := by
  subst h
  exact ⟨none, 0, rfl, OwnI.nil_ _ _ _, hb⟩

theorem RetIB.own {E : TypeId} {B n c : Nat} {A : Option Addr} {w w' : World} {zs : List Int} {ok ok' : Bool} (h : OwnI E B w' A c zs) (hn : n = zs.length) (hok : ok' = ok) (hb : Below B w w') :
    RetIB E B w zs ok (.returned (.tuple #[.slice A n c, .bool ok'])) w' := by
  subst hn hok
  exact ⟨_, _, rfl, h, hb⟩

theorem RetIB.empty {E : TypeId} {B : Nat} {w w' : World} {zs : List Int} {ok ok' : Bool} (h : zs = []) (hok : ok' = ok) (hb : Below B w w') : RetIB E B w zs ok (.returned (.tuple #[.slice none 0 0, .bool ok'])) w' := by
  subst h hok
  exact ⟨none, 0, rfl, OwnI.nil_ _ _ _, hb⟩

/-- append of one number onto a slice of the call's own: the number lies in a block of its own, at address ad. -/
theorem wp_app1 {P : Program} {w : World} {o : Oper} {a : Act} {K : Act → World → Prop} {Q : Exit → Act → World → Prop} (s x : Operand) (t E : TypeId)
    (ho : o.op = .call { callee := .builtin .append, args := #[s, x], argTypes := #[t, t] })
    (B : Nat) (i : TypeInfo) (ht : P.underlying t = some (.slice E)) (hi : P.info? E = some i) (hz : i.zero = some (.int .i64 0)) (h1 : i.size = 1) (h8 : i.bytes = 8)
    (n : Nat) (A : Option Addr) (c : Nat) (zs : List Int) (g : Nat) (y : Int) (hs : a.eval s = .slice A n c) (hx : a.eval x = .slice (some ⟨g, 0, none⟩) 1 1) (hn : zs.length = n)
    (hc : w.cell? ⟨g, 0, none⟩ = some (.int .i64 y)) (hown : OwnI E B w A c zs) (hlen : n < 1000000) (hB : B ≤ w.heap.size)
    (h : ∀ A' c' w', OwnI E B w' A' c' (zs ++ [y]) → Below B w w' → w.heap.size ≤ w'.heap.size → K (a.put o.dst (.slice A' (n + 1) c')) w') :
    o.wp P a w K Q := by
  subst hn
  refine wp_append_own _ s x t ho B E i (.int .i64 0) 1 8 ht hi hz h1 h8 rfl (by decide) (.slice A zs.length c) zs.length (zs.map (Value.int .i64)) hs hown.2 ⟨g, 0, none⟩ 1 1 [.int .i64 y] hx rfl ?_ ?_ (by unfold maxLen; omega) (by omega) hB ?_
  · intro j u hj
    match j, hj with
    | 0, hj =>
      simp at hj; subst hj
      have : (⟨g, 0, none⟩ : Addr).add 0 = ⟨g, 0, none⟩ := by simp [Addr.add]
      rw [this]; exact hc
  · intro u hu; simp at hu; subst hu; rfl
  · intro v' w' ho' hgr hnil
    have hlt := hown.2.lt
    have hbel : Below B w w' := (Below.refl _ _).grown hgr hB (fun k hk => (hlt k hk).1)
    rcases ho'.2 with ⟨_, h0⟩ | ⟨g, cap, cur, hv, h2⟩
    · omega
    · subst hv
      refine h _ _ _ ⟨by simp; omega, ?_⟩ hbel hbel.size
      simpa using ho'

theorem wpList_app1 {P : Program} {w : World} {ops : Array Oper} {rest : List Oper} {o : Oper} {a : Act} {Q : Exit → Act → World → Prop} (hg : o.guard = none) (s x : Operand) (t E : TypeId)
    (ho : o.op = .call { callee := .builtin .append, args := #[s, x], argTypes := #[t, t] })
    (B : Nat) (i : TypeInfo) (ht : P.underlying t = some (.slice E)) (hi : P.info? E = some i) (hz : i.zero = some (.int .i64 0)) (h1 : i.size = 1) (h8 : i.bytes = 8)
    (n : Nat) (A : Option Addr) (c : Nat) (zs : List Int) (g : Nat) (y : Int) (hs : a.eval s = .slice A n c) (hx : a.eval x = .slice (some ⟨g, 0, none⟩) 1 1) (hn : zs.length = n)
    (hc : w.cell? ⟨g, 0, none⟩ = some (.int .i64 y)) (hown : OwnI E B w A c zs) (hlen : n < 1000000) (hB : B ≤ w.heap.size)
    (h : ∀ A' c' w', OwnI E B w' A' c' (zs ++ [y]) → Below B w w' → w.heap.size ≤ w'.heap.size → wpList P ops Q rest (a.put o.dst (.slice A' (n + 1) c')) w') :
    wpList P ops Q (o :: rest) a w :=
  wpList_plain hg fun _ hK => wp_app1 s x t E ho B i ht hi hz h1 h8 n A c zs g y hs hx hn hc hown hlen hB fun A' c' w' h2 h3 h4 => hK _ _ (h A' c' w' h2 h3 h4)

theorem step_app1 {P : Program} {w : World} {ops : Array Oper} {o : Oper} {a : Act} {K : Act → World → Prop} {Q : Exit → Act → World → Prop} {X : Prop} (hg : o.guard = none) (s x : Operand) (t E : TypeId)
    (ho : o.op = .call { callee := .builtin .append, args := #[s, x], argTypes := #[t, t] })
    (B : Nat) (i : TypeInfo) (ht : P.underlying t = some (.slice E)) (hi : P.info? E = some i) (hz : i.zero = some (.int .i64 0)) (h1 : i.size = 1) (h8 : i.bytes = 8)
    (n : Nat) (A : Option Addr) (c : Nat) (zs : List Int) (g : Nat) (y : Int) (hs : a.eval s = .slice A n c) (hx : a.eval x = .slice (some ⟨g, 0, none⟩) 1 1) (hn : zs.length = n)
    (hc : w.cell? ⟨g, 0, none⟩ = some (.int .i64 y)) (hown : OwnI E B w A c zs) (hlen : n < 1000000) (hB : B ≤ w.heap.size)
    (h : ∀ A' c' w', OwnI E B w' A' c' (zs ++ [y]) → Below B w w' → w.heap.size ≤ w'.heap.size → K (a.put o.dst (.slice A' (n + 1) c')) w') :
    if Region.wanted o (yielded ops a.tmps) = true then Oper.wp P o a w K Q else X := by
  have hw : Region.wanted o (yielded ops a.tmps) = true := by simp [Region.wanted, hg]
  rw [if_pos hw]
  exact wp_app1 s x t E ho B i ht hi hz h1 h8 n A c zs g y hs hx hn hc hown hlen hB h

/-- The same, telling which blocks may have changed. -/
theorem wpList_app1g {P : Program} {w : World} {ops : Array Oper} {rest : List Oper} {o : Oper} {a : Act} {Q : Exit → Act → World → Prop} (hg : o.guard = none) (s x : Operand) (t E : TypeId)
    (ho : o.op = .call { callee := .builtin .append, args := #[s, x], argTypes := #[t, t] })
    (B : Nat) (i : TypeInfo) (ht : P.underlying t = some (.slice E)) (hi : P.info? E = some i) (hz : i.zero = some (.int .i64 0)) (h1 : i.size = 1) (h8 : i.bytes = 8)
    (n : Nat) (A : Option Addr) (c : Nat) (zs : List Int) (g : Nat) (y : Int) (hs : a.eval s = .slice A n c) (hx : a.eval x = .slice (some ⟨g, 0, none⟩) 1 1) (hn : zs.length = n)
    (hc : w.cell? ⟨g, 0, none⟩ = some (.int .i64 y)) (hown : OwnI E B w A c zs) (hlen : n < 1000000) (hB : B ≤ w.heap.size)
    (h : ∀ A' c' w', OwnI E B w' A' c' (zs ++ [y]) → w.grownBy w' (Value.slice A n c).ownBlock → w.heap.size ≤ w'.heap.size → wpList P ops Q rest (a.put o.dst (.slice A' (n + 1) c')) w') :
    wpList P ops Q (o :: rest) a w := by
  subst hn
  refine wpList_append_own _ hg s x t ho B E i (.int .i64 0) 1 8 ht hi hz h1 h8 rfl (by decide) (.slice A zs.length c) zs.length (zs.map (Value.int .i64)) hs hown.2 ⟨g, 0, none⟩ 1 1 [.int .i64 y] hx rfl ?_ ?_ (by unfold maxLen; omega) (by omega) hB ?_
  · intro j u hj
    match j, hj with
    | 0, hj =>
      simp at hj; subst hj
      have : (⟨g, 0, none⟩ : Addr).add 0 = ⟨g, 0, none⟩ := by simp [Addr.add]
      rw [this]; exact hc
  · intro u hu; simp at hu; subst hu; rfl
  · intro v' w' ho' hgr hnil
    rcases ho'.2 with ⟨_, h0⟩ | ⟨g, cap, cur, hv, h2⟩
    · omega
    · subst hv
      refine h _ _ _ ⟨by simp; omega, ?_⟩ hgr hgr.size
      simpa using ho'

theorem new_cell (w : World) (v : Value) (E : TypeId) : (w.alloc (.cells #[v] E)).cell? ⟨w.heap.size, 0, none⟩ = some v := by
  rw [World.cell?_alloc_at _ _ _ _ rfl]; rfl

theorem OwnI.alloc {E : TypeId} {B : Nat} {w : World} {A : Option Addr} {c : Nat} {zs : List Int} (h : OwnI E B w A c zs) (o : Obj) : OwnI E B (w.alloc o) A c zs := ⟨h.1, h.2.alloc o⟩
theorem OwnI.drew {E : TypeId} {B : Nat} {w : World} {A : Option Addr} {c : Nat} {zs : List Int} (h : OwnI E B w A c zs) : OwnI E B w.drew A c zs := h

/-- An empty literal. -/
theorem OwnI.lit0 (E : TypeId) (w : World) : OwnI E w.heap.size (w.alloc (.cells #[] E)) (some ⟨w.heap.size, 0, none⟩) 0 [] :=
  ⟨by simp, World.ownsRow_lit w #[] 0 (Nat.le_refl _) (by simp) rfl⟩

end Go.Proofs.Ytinhcdppdnmlgaa
