/- Merged out of the texts DrawI DrawJ DrawK DrawL DrawM DrawO. -/
import Derived.Test.YtinhcdppdnmlgaaDoorGrH
import Derived.Test.YtinhcdppdnmlgaaDoorMemV
import Derived.Test.YtinhcdppdnmlgaaDoorGrD
import Derived.Test.YtinhcdppdnmlgaaDoorGrG
import Derived.Test.YtinhcdppdnmlgaaDoorGrE
import Derived.Deep.RegionLaw
/- Contracts of what draws columns: some string of the width. -/
namespace Go.Proofs.YtinhcdppdnmlgaaDoor
open Go.RowKit
set_option maxRecDepth 4000

theorem SG.off_grown {α : Type} {f : α → Value} {w w' : World} {A : Option Addr} {xs : List α} {g : Nat} (h : SG f w A xs) (hg : w.grownBy w' (some g)) (ho : Off A g) : SG f w' A xs := h.grown hg ho

def anyNums : List Int := [4, 6, 1, 2, 3, 5, 8, 12]
def IsW (v : Int) : Prop := 1 ≤ v ∧ v ≤ 12

/-- 'string(b)' of a row of the call's own: some string of its length. -/
theorem run_strI {src dst e : TypeId} {B : Nat} {E : TypeId} {w : World} {g c W : Nat} {xs : List Int} (hs : Tryd.prog.underlying src = some (.slice e)) (he : Tryd.prog.underlying e = some (.int .u8)) (hd' : Tryd.prog.underlying dst = some .string)
    (h : OwnB E B w (some ⟨g, 0, none⟩) c xs) (hl : xs.length = W) (hx : ∀ x ∈ xs, 0 ≤ x ∧ x ≤ 255) :
    ∃ s : ByteArray, s.size = W ∧ (convert src dst (.slice (some ⟨g, 0, none⟩) W c)).run Tryd.prog w = .ok (.string s) w := by
  have hl2 : (xs.map fun x => UInt8.ofNat x.toNat).length = W := by simp [hl]
  have := run_convert_bytes_back (P := Tryd.prog) w src dst e ⟨g, 0, none⟩ c (xs.map fun x => UInt8.ofNat x.toNat) hs he hd' (fun j hj => by
    rw [hl2] at hj
    obtain ⟨g', x, hx', hg, hc, _⟩ := h.at_ (k := j) (by rw [hl]; exact hj)
    simp only [Option.some.injEq, Addr.mk.injEq, and_true] at hg
    subst hg
    have hadd : (⟨g, 0, none⟩ : Addr).add j = ⟨g, j, none⟩ := by unfold Addr.add; split <;> simp_all
    rw [hadd, hc]
    obtain ⟨h3, h4⟩ := List.getElem?_eq_some_iff.1 hx'
    have hb := hx x (List.mem_of_getElem? hx')
    rw [List.getElem_map, h4, UInt8.toNat_ofNat']
    congr 2
    omega)
  rw [hl2] at this
  exact ⟨_, by show Array.size _ = W; simp [hl], this⟩

/-- A string is drawn. -/
def PickedS (Q : ByteArray → Prop) (g : Nat) (P : Int) (w : World) (e : Ending) (w' : World) : Prop :=
  ∃ s : ByteArray, e = .returned (.string s) ∧ Q s ∧ Rdr w' g P ∧ w.grownBy w' (some g)

theorem of_any (g : Nat) (P : Int) (A : Option Addr) (c : Nat) (zs : List ByteArray) (w : World) (h : Rdr w g P) (hP : P ≤ 100000) (hs : SS w A zs) (hoff : Off A g) (hn : 0 < zs.length) :
    Calls Tryd.prog 36 #[.pointer (some ⟨g, 0, none⟩), .slice A zs.length c] w fun e w' => PickedS (fun v => v ∈ zs) g (P + 1) w e w' := by
  obtain ⟨b, off, rfl, hb⟩ := hs.nonempty hn
  have hl := hs.len
  have H := hd h
  have Hs := hd hs
  have Hoff := hd hoff
  clear h hs hoff
  go_enter Tryd.func36, Tryd.ntmps36
  go_wp2_with fail
  refine (pick_any g P zs.length _ H.out hP).mono ?_
  rintro e w1 ⟨v, rfl, hv, hr, hg⟩
  obtain ⟨hv0, hv1⟩ := hv
  have hv2 := hv1 (by omega)
  obtain ⟨i, rfl⟩ := Int.eq_ofNat_of_zero_le hv0
  have hi : i < zs.length := by omega
  obtain ⟨x, b', off', hx, he, _, hc⟩ := (Hs.out.grown hg Hoff.out).at_ hi
  simp only [Option.some.injEq, Addr.mk.injEq, and_true] at he
  obtain ⟨rfl, rfl⟩ := he
  have Hr := hd hr
  have Hg := hd hg
  have Hx : Hid (x ∈ zs) := hd (List.mem_of_getElem? hx)
  clear hr hg hx hv1
  go_wp2
  go_ret
  exact ⟨x, rfl, Hx.out, Hr.out, Hg.out⟩

theorem all_set {xs : List Int} {k : Nat} {v : Int} (h : ∀ x ∈ xs, 0 ≤ x ∧ x ≤ 255) (hv : 0 ≤ v ∧ v ≤ 255) : ∀ x ∈ xs.set k v, 0 ≤ x ∧ x ≤ 255 := by
  intro x hx
  rcases List.mem_or_eq_of_mem_set hx with h1 | rfl
  · exact h x h1
  · exact hv

/-- The bytes of "0099". -/
def b0099 (v : Int) : Int := if v < 2 then 48 else 57

/-- One round of doubling. -/
theorem many_step {O S k T : Nat} (h : O + S * k = T) (hk : k % 2 = 1) : O + S + (S + S) * (k / 2) = T := by
  obtain ⟨j, rfl⟩ : ∃ j, k = 2 * j + 1 := ⟨k / 2, by omega⟩
  rw [show (2 * j + 1) / 2 = j by omega]
  rw [← h]
  grind
theorem many_step0 {O S k T : Nat} (h : O + S * k = T) (hk : k % 2 = 0) : O + (S + S) * (k / 2) = T := by
  obtain ⟨j, rfl⟩ : ∃ j, k = 2 * j := ⟨k / 2, by omega⟩
  rw [show (2 * j) / 2 = j by omega]
  rw [← h]
  grind
def ManyR (T : Nat) (s n o : Value) : Prop := ∃ (S O : ByteArray) (k : Nat), s = .string S ∧ n = .int .i64 k ∧ o = .string O ∧ O.size + S.size * k = T ∧ S.size ≤ 2 * T ∧ k ≤ 13

def badStrs : List ByteArray := [⟨#[120]⟩, ⟨#[45]⟩, ⟨#[32]⟩, ⟨#[48]⟩]
def twoNums : List Int := [12, 13]

end Go.Proofs.YtinhcdppdnmlgaaDoor

/- Contracts of what draws engines: some engine, or some list of strings. -/
namespace Go.Proofs.YtinhcdppdnmlgaaDoor
open Go.RowKit
set_option maxRecDepth 4000

theorem Cl.put {w : World} {g : Nat} {v : Value} (h : Cl w g v) (x : Value) : Cl (w.setCell ⟨g, 0, none⟩ x) g x :=
  ⟨World.cell?_setCell_same' _ _ _ (by rw [h.1]; rfl), by rw [World.frozen?_setCell]; exact h.2.1, Nat.lt_of_lt_of_le h.2.2 (grown_set w ⟨g, 0, none⟩ x).size⟩

theorem step_appG {α : Type} {f : α → Value} {P : Program} {w : World} {ops : Array Oper} {o : Oper} {a : Act} {K : Act → World → Prop} {Q : Exit → Act → World → Prop} {X : Prop} (hg : o.guard = none) (s x : Operand) (t E : TypeId)
    (ho : o.op = .call { callee := .builtin .append, args := #[s, x], argTypes := #[t, t] })
    (B : Nat) (i : TypeInfo) (z : Value) (by_ : Nat) (ht : P.underlying t = some (.slice E)) (hi : P.info? E = some i) (hz : i.zero = some z) (h1 : i.size = 1) (h8 : i.bytes = by_) (hzc : z.cells.size = 1) (hb16 : by_ ≤ 100)
    (n : Nat) (A : Option Addr) (c : Nat) (zs : List α) (g : Nat) (y : α) (hy1 : (f y).oneCell' = true) (hs : a.eval s = .slice A n c) (hx : a.eval x = .slice (some ⟨g, 0, none⟩) 1 1) (hn : zs.length = n)
    (hc : w.cell? ⟨g, 0, none⟩ = some (f y)) (hown : OwnG f E B w A c zs) (hlen : n < 1000000) (hB : B ≤ w.heap.size)
    (h : ∀ A' c' w', OwnG f E B w' A' c' (zs ++ [y]) → w.grownBy w' (Value.slice A n c).ownBlock → Below B w w' → w.heap.size ≤ w'.heap.size → K (a.put o.dst (.slice A' (n + 1) c')) w') :
    if Region.wanted o (yielded ops a.tmps) = true then Oper.wp P o a w K Q else X := by
  have hw : Region.wanted o (yielded ops a.tmps) = true := by simp [Region.wanted, hg]
  rw [if_pos hw]
  subst hn
  refine wp_append_own _ s x t ho B E i z 1 by_ ht hi hz h1 h8 hzc (by decide) (.slice A zs.length c) zs.length (zs.map f) hs hown.2 ⟨g, 0, none⟩ 1 1 [f y] hx rfl ?_ ?_ (by unfold maxLen; omega) ?_ hB ?_
  · intro j u hj
    match j, hj with
    | 0, hj =>
      simp at hj; subst hj
      have : (⟨g, 0, none⟩ : Addr).add 0 = ⟨g, 0, none⟩ := by simp [Addr.add]
      rw [this]; exact hc
  · intro u hu; simp at hu; subst hu; exact hy1
  · have := Nat.mul_le_mul (show zs.length + 1 ≤ 1000000 by omega) hb16
    omega
  · intro v' w' ho' hgr hnil
    have hlt := hown.2.lt
    have hbel : Below B w w' := (Below.refl _ _).grown hgr hB (fun k hk => (hlt k hk).1)
    rcases ho'.2 with ⟨_, h0⟩ | ⟨g, cap, cur, hv, h2⟩
    · omega
    · subst hv
      refine h _ _ _ ⟨by simp; omega, ?_⟩ hgr hbel hbel.size
      simpa using ho'

theorem OwnG.cut0 {α : Type} {f : α → Value} {E : TypeId} {B : Nat} {w : World} {A : Option Addr} {c : Nat} {zs : List α} (h : OwnG f E B w A c zs) : OwnG f E B w A c [] := by
  refine ⟨by simp, ?_⟩
  rcases h.2.2 with ⟨h1, h2⟩ | ⟨g, cap, cur, hv, h3, h4, h5, h6, h7, h8⟩
  · simp only [Value.slice.injEq] at h1
    obtain ⟨rfl, _, rfl⟩ := h1
    exact World.ownsRow_nil _ _ _ _
  · simp only [Value.slice.injEq] at hv
    obtain ⟨rfl, _, rfl⟩ := hv
    exact ⟨by simp, .inr ⟨g, c, cur, rfl, h3, h4, by simp, h6, h7, by simp⟩⟩

def Sizes (cs : List ByteArray) (m : Nat) : Prop := ∀ s ∈ cs, s.size ≤ m
theorem Sizes.snoc {cs : List ByteArray} {m : Nat} {s : ByteArray} (h : Sizes cs m) (hs : s.size ≤ m) : Sizes (cs ++ [s]) m := by
  intro x hx
  rcases List.mem_append.1 hx with h1 | h1
  · exact h x h1
  · simp at h1; subst h1; exact hs
theorem Sizes.set {cs : List ByteArray} {m k : Nat} {s : ByteArray} (h : Sizes cs m) (hs : s.size ≤ m) : Sizes (cs.set k s) m := by
  intro x hx
  rcases List.mem_or_eq_of_mem_set hx with h1 | rfl
  · exact h x h1
  · exact hs
theorem Sizes.more {cs : List ByteArray} {m m' : Nat} (h : Sizes cs m) (hm : m ≤ m') : Sizes cs m' := fun s hs => Nat.le_trans (h s hs) hm

/-- An engine is drawn: a list of the call's own of 1 to 7 strings. -/
def DrawnE (g : Nat) (P : Int) (w : World) (e : Ending) (w' : World) : Prop :=
  ∃ A c cs, e = .returned (.agg #[.slice A cs.length c]) ∧ (1 ≤ cs.length ∧ cs.length ≤ 7 ∧ Sizes cs 12) ∧ OwnS 9 w.heap.size w' A c cs ∧ Rdr w' g P ∧ w.grownBy w' (some g)

def someNums : List Int := [3, 4, 1, 2, 5, 7]
/-- What the loop of l3Some keeps. -/
def SomeR (w : World) (g : Nat) (P : Int) (n0 k : Nat) (A : Option Addr) (c : Nat) (cs : List ByteArray) (wr : World) : Prop :=
  cs.length + k = n0 ∧ Sizes cs 12 ∧ OwnS 9 (w.heap.size + 2) wr A c cs ∧ Cl wr w.heap.size (.slice none 0 0) ∧ Cl wr (w.heap.size + 1) (.slice A cs.length c) ∧ Rdr wr g (P + 2 + 50 * (cs.length : Int)) ∧ Only w.heap.size g w wr

end Go.Proofs.YtinhcdppdnmlgaaDoor

/- Contracts of what draws engines: some list of strings, and what the draws of the laws return. -/
namespace Go.Proofs.YtinhcdppdnmlgaaDoor
open Go.RowKit
set_option maxRecDepth 4000

/-- A list of strings of the call's own, from B on; no block below B has changed but the source. -/
def SpoiledE (B g : Nat) (P : Int) (w : World) (e : Ending) (w' : World) : Prop :=
  ∃ A c cs, e = .returned (.agg #[.slice A cs.length c]) ∧ (cs.length ≤ 8 ∧ Sizes cs 200) ∧ OwnS 9 B w' A c cs ∧ Rdr w' g P ∧ Only B g w w'

def cellLen (w : World) (g : Nat) : Nat := sliceLen ((w.cell? ⟨g, 0, none⟩).getD (.bool false))
theorem Cl.len {w : World} {g n c : Nat} {A : Option Addr} (h : Cl w g (.slice A n c)) : cellLen w g = n := by
  rw [cellLen, h.1]; rfl

/-- What the loop of l3Bad keeps. -/
def BadR (w : World) (B g : Nat) (P : Int) (A : Option Addr) (c : Nat) (cs : List ByteArray) (wr : World) : Prop :=
  (1 ≤ cs.length ∧ cs.length ≤ 8) ∧ Sizes cs 200 ∧ OwnS 9 B wr A c cs ∧ Cl wr w.heap.size (.slice A cs.length c) ∧ Cl wr (w.heap.size + 1) (.slice none 0 0) ∧ Rdr wr g P ∧ Only B g w wr

theorem OwnG.keep_off {α : Type} {f : α → Value} {E : TypeId} {B : Nat} {w w' : World} {A : Option Addr} {c r : Nat} {xs : List α} (h : OwnG f E B w A c xs) (hg : w.grownBy w' (some r)) (hr : ∀ g, (Value.slice A xs.length c).ownBlock = some g → ¬ r = g) : OwnG f E B w' A c xs := by
  refine ⟨h.1, h.2.kept hg ?_⟩
  cases hv : (Value.slice A xs.length c).ownBlock with
  | none => exact .inl rfl
  | some g =>
    right
    intro e
    exact hr g hv (by injection e with e; exact e.symm)

end Go.Proofs.YtinhcdppdnmlgaaDoor

/- Contracts of the draws of engines: some list of strings, of the call's own. -/
namespace Go.Proofs.YtinhcdppdnmlgaaDoor
open Go.RowKit
set_option maxRecDepth 4000

theorem Cl.only {B g r : Nat} {w w' : World} {v : Value} (h : Cl w r v) (nn : Only B g w w') (hr : r < B) (hg : r ≠ g) : Cl w' r v := by
  have hb : w'.heap[r]? = w.heap[r]? := nn.block r hr hg
  refine ⟨?_, ?_, Nat.lt_of_lt_of_le h.2.2 nn.size⟩
  · rw [World.cell?_of_block (w := w) hb]; exact h.1
  · rw [World.frozen?_of_block (w := w) hb]; exact h.2.1

/-- Some list of strings is drawn, the source further on. -/
def OpenE (g : Nat) (P : Int) (w : World) (e : Ending) (w' : World) : Prop :=
  ∃ A c cs, e = .returned (.agg #[.slice A cs.length c]) ∧ (cs.length ≤ 8 ∧ Sizes cs 200) ∧ OwnS 9 w.heap.size w' A c cs ∧ Rdr w' g P ∧ w.grownBy w' (some g)

/-- What a law is given by a draw of one engine. -/
def DrewE (w : World) (e : Ending) (w' : World) : Prop :=
  ∃ A c cs, e = .returned (.agg #[.slice A cs.length c]) ∧ (cs.length ≤ 8 ∧ Sizes cs 200) ∧ OwnS 9 w.heap.size w' A c cs ∧ Below w.heap.size w w'

end Go.Proofs.YtinhcdppdnmlgaaDoor

/- The contract of the draw of an engine and a number of turns. -/
namespace Go.Proofs.YtinhcdppdnmlgaaDoor
open Go.RowKit
set_option maxRecDepth 4000

def turnNums : List Int := [300, 301, -300, -301, 9223372036854775807, -9223372036854775808]
def I64 (v : Int) : Prop := -9223372036854775808 ≤ v ∧ v ≤ 9223372036854775807
/-- What a law is given by a draw of one engine and a number. -/
def DrewEN (w : World) (e : Ending) (w' : World) : Prop :=
  ∃ A c cs v, e = .returned (.tuple #[.agg #[.slice A cs.length c], .int .i64 v]) ∧ (cs.length ≤ 8 ∧ Sizes cs 200) ∧ OwnS 9 w.heap.size w' A c cs ∧ Below w.heap.size w w' ∧ I64 v

end Go.Proofs.YtinhcdppdnmlgaaDoor

/- Contracts of the draws of a width, of an engine and a width, of a polynomial, an argument and a width. -/
namespace Go.Proofs.YtinhcdppdnmlgaaDoor
open Go.RowKit
set_option maxRecDepth 4000

def wideNums : List Int := [0, 13, -1, 9223372036854775807]

/-- What a law is given by a draw of a polynomial and two numbers. -/
def DrewPNN (w : World) (e : Ending) (w' : World) : Prop :=
  ∃ A c zs v u, e = .returned (.tuple #[.slice A zs.length c, .int .i64 v, .int .i64 u]) ∧ zs.length ≤ 8 ∧ OwnI 3 w.heap.size w' A c zs ∧ zs.length ≤ c ∧ Below w.heap.size w w' ∧ Fits v ∧ Fits u

end Go.Proofs.YtinhcdppdnmlgaaDoor
