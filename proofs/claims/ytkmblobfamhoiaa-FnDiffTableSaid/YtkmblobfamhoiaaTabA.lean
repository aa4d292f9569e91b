/- The contracts of both sides' DiffTable and of DiffsOf. -/
import Derived.Test.YtkmblobfamhoiaaSpecI
import Derived.Test.YtkmblobfamhoiaaMemV
import Derived.Maps.AppendAt
namespace Go.Proofs.Ytkmblobfamhoiaa
open Go.RowKit
set_option maxRecDepth 4000

theorem infoL : (Try.prog.info? 23).map (fun i => (i.zero, i.size, i.bytes)) = some (some (.slice none 0 0), 1, 24) := by kernel_rfl

theorem wpList_appL {α : Type} {f : α → Value} {P : Program} {w : World} {ops : Array Oper} {rest : List Oper} {o : Oper} {a : Act} {Q : Exit → Act → World → Prop} (hg : o.guard = none) (s x : Operand) (t E : TypeId)
    (ho : o.op = .call { callee := .builtin .append, args := #[s, x], argTypes := #[t, t] })
    (B : Nat) (i : TypeInfo) (z : Value) (by_ : Nat) (ht : P.underlying t = some (.slice E)) (hi : P.info? E = some i) (hz : i.zero = some z) (h1 : i.size = 1) (h8 : i.bytes = by_) (hzc : z.cells.size = 1) (hb16 : by_ ≤ 100)
    (n : Nat) (A : Option Addr) (c : Nat) (zs : List α) (g : Nat) (y : α) (hy1 : (f y).oneCell' = true) (hs : a.eval s = .slice A n c) (hx : a.eval x = .slice (some ⟨g, 0, none⟩) 1 1) (hn : zs.length = n)
    (hc : w.cell? ⟨g, 0, none⟩ = some (f y)) (hown : OwnG f E B w A c zs) (hlen : n < 1000000) (hB : B ≤ w.heap.size)
    (h : ∀ A' c' w', OwnG f E B w' A' c' (zs ++ [y]) → w.grownBy w' (Value.slice A n c).ownBlock → ((Value.slice A' (n + 1) c').ownBlock = (Value.slice A n c).ownBlock ∨ (Value.slice A' (n + 1) c').ownBlock = some w.heap.size) → Below B w w' → w.heap.size ≤ w'.heap.size → wpList P ops Q rest (a.put o.dst (.slice A' (n + 1) c')) w') :
    wpList P ops Q (o :: rest) a w :=
  wpList_plain hg fun _ hK => by
    subst hn
    obtain ⟨v', w', hr, ho', hgr, hnil, hat⟩ := run_append_own_at (P := P) w B t o.type E i z 1 by_ ht hi hz h1 h8 hzc (by decide) (.slice A zs.length c) zs.length (zs.map f) hown.2 ⟨g, 0, none⟩ 1 1 [f y] rfl
      (by
        intro j u hj
        match j, hj with
        | 0, hj =>
          simp at hj; subst hj
          have : (⟨g, 0, none⟩ : Addr).add 0 = ⟨g, 0, none⟩ := by simp [Addr.add]
          rw [this]; exact hc) (by intro u hu; simp at hu; subst hu; exact hy1) (by unfold maxLen; omega)
      (by have := Nat.mul_le_mul (show zs.length + 1 ≤ 1000000 by omega) hb16; omega) hB
    have hlt := hown.2.lt
    have hbel : Below B w w' := (Below.refl _ _).grown hgr hB (fun k hk => (hlt k hk).1)
    rcases ho'.2 with ⟨_, h0⟩ | ⟨g9, cap, cur, hv, h2⟩
    · omega
    · subst hv
      unfold Oper.wp execOp
      simp only [ho, resolve, invoke, builtin, Sem.run_bind, Sem.run_pure, Result.andThen_ok, List.map_toArray, List.map_cons, List.map_nil, hs, hx, hr]
      exact hK _ _ (h _ _ _ ⟨by simp; omega, by simpa using ho'⟩ hgr hat hbel hbel.size)

/-- An element of a table, as it is. -/
def asV (v : Value) : Value := v
theorem map_asV : ∀ Vs : List Value, Vs.map asV = Vs
  | [] => rfl
  | v :: r => by rw [List.map_cons, map_asV r]; rfl

/-- The elements of a table of differences: row k reads as the differences of order k. -/
def RowsAt (w : World) (Vs : List Value) (zs : List Int) : Prop :=
  ∀ (k : Nat) (V : Value), Vs[k]? = some V → ∃ A c, V = .slice A (nbrs k zs).length c ∧ SI w A (nbrs k zs)
/-- No row lies in the block. -/
def RowsOff (Vs : List Value) (r : Option Nat) : Prop := ∀ V ∈ Vs, ∀ A n c, V = .slice A n c → ∀ a, A = some a → r ≠ some a.block

section
variable {w w' : World} {Vs : List Value} {zs : List Int}
theorem RowsAt.nil (w : World) (zs : List Int) : RowsAt w [] zs := fun k V h => by simp at h
theorem RowsOff.nil (r : Option Nat) : RowsOff [] r := fun V h => by simp at h
theorem RowsAt.below (h : RowsAt w Vs zs) (b : Below w.heap.size w w') : RowsAt w' Vs zs := fun k V hk => by
  obtain ⟨A, c, e, hs⟩ := h k V hk
  exact ⟨A, c, e, hs.below b⟩
theorem SI.grownO {w w' : World} {A : Option Addr} {xs : List Int} {row : Option Nat} (h : SI w A xs) (hg : w.grownBy w' row) (ho : ∀ a, A = some a → row ≠ some a.block) : SI w' A xs := by
  refine ⟨h.1, fun k v hk => ?_⟩
  obtain ⟨b, off, e, hb, hc⟩ := h.2 k v hk
  have hbl : w'.heap[b]? = w.heap[b]? := hg.block b hb (by have := ho _ e; exact fun e2 => this e2.symm)
  exact ⟨b, off, e, Nat.lt_of_lt_of_le hb hg.size, by rw [World.cell?_of_block (w := w) hbl]; exact hc⟩
theorem RowsAt.grown {r : Option Nat} (h : RowsAt w Vs zs) (g : w.grownBy w' r) (ho : RowsOff Vs r) : RowsAt w' Vs zs := fun k V hk => by
  obtain ⟨A, c, e, hs⟩ := h k V hk
  exact ⟨A, c, e, hs.grownO g (ho V (List.mem_of_getElem? hk) _ _ _ e)⟩
theorem RowsAt.snoc {k c : Nat} {A : Option Addr} (h : RowsAt w Vs zs) (hk : Vs.length = k) (hA : SI w A (nbrs k zs)) : RowsAt w (Vs ++ [.slice A (nbrs k zs).length c]) zs := fun j V hj => by
  rcases Nat.lt_or_ge j Vs.length with h1 | h1
  · rw [List.getElem?_append_left h1] at hj
    exact h j V hj
  · rw [List.getElem?_append_right h1] at hj
    have h0 : j - Vs.length = 0 := by
      rcases Nat.eq_zero_or_pos (j - Vs.length) with h2 | h2
      · exact h2
      · rw [List.getElem?_eq_none (by simp; omega)] at hj; cases hj
    rw [h0] at hj
    simp at hj
    obtain rfl : j = k := by omega
    exact ⟨A, c, hj.symm, hA⟩
theorem RowsOff.snoc {r : Option Nat} {A : Option Addr} {n c : Nat} (h : RowsOff Vs r) (hA : ∀ a, A = some a → r ≠ some a.block) : RowsOff (Vs ++ [.slice A n c]) r := fun V hV A' n' c' e => by
  rcases List.mem_append.1 hV with h1 | h1
  · exact h V h1 A' n' c' e
  · simp only [List.mem_singleton] at h1
    rw [h1] at e
    simp only [Value.slice.injEq] at e
    rw [← e.1]
    exact hA
/-- Off a block that is made only now. -/
theorem RowsAt.off_new (h : RowsAt w Vs zs) (hl : Vs.length ≤ zs.length) {g : Nat} (hg : w.heap.size ≤ g) : RowsOff Vs (some g) := fun V hV A n c e a ha => by
  obtain ⟨k, hk⟩ := List.getElem?_of_mem hV
  obtain ⟨A', c', e', hs⟩ := h k V hk
  rw [e'] at e
  simp only [Value.slice.injEq] at e
  have hkl : k < Vs.length := by
    rcases Nat.lt_or_ge k Vs.length with h1 | h1
    · exact h1
    · rw [List.getElem?_eq_none h1] at hk; cases hk
  obtain ⟨b, off, eb, hb⟩ := hs.nonempty (by rw [nbrs_length]; omega)
  rw [e.1, ha] at eb
  injection eb with eb
  intro e3
  injection e3 with e3
  have : a.block = b := by rw [eb]
  omega
end

/-- The number of rows. -/
def dtB (zs : List Int) : Bool := tabV zs && decide (zs.length ≤ 30)
def dtN (zs : List Int) : Nat := if dtB zs then zs.length else 0
theorem dtN_yes {zs : List Int} (h : dtB zs = true) : dtN zs = zs.length := by rw [dtN, if_pos h]
theorem dtN_no {zs : List Int} (h : dtB zs = false) : dtN zs = 0 := by rw [dtN, if_neg (by rw [h]; simp)]

/-- A table of differences is returned. -/
def RetT (zs : List Int) (m : Nat) (w : World) (e : Ending) (w' : World) : Prop :=
  ∃ A c Vs, e = .returned (.slice A m c) ∧ Vs.length = m ∧ SG asV w' A Vs ∧ RowsAt w' Vs zs ∧ Below w.heap.size w w'

theorem nbrs_2e18 {zs : List Int} (h : dtB zs = true) {k : Nat} (hk : k < zs.length) : ∀ x ∈ nbrs k zs, -2000000000000000000 ≤ x ∧ x ≤ 2000000000000000000 := by
  have h1 : tabV zs = true ∧ zs.length ≤ 30 := by simpa [dtB] using h
  have h2 := (tabV_iff.1 h1.1).2.2
  intro x hx
  have h3 := nbrs_bd zs 1000000000 h2 k x hx
  have h4 : ∀ j : Nat, j < 30 → (2 : Int) ^ j ≤ 536870912 := by decide
  have h5 := h4 k (by omega)
  have h6 : (0 : Int) < 2 ^ k := Int.pow_pos (by decide)
  omega

theorem TableValid_v (A : Option Addr) (c : Nat) (p : List Int) (t : Bool) (w : World) (h : SI w A p) (ht : tabV p = t) :
    Calls Try.prog 67 #[.slice A p.length c] w fun e w' => e = .returned (.bool t) ∧ w = w' := by
  subst ht; exact TableValid_any A c p w h

theorem DiffTable_none (A : Option Addr) (c : Nat) (zs : List Int) (w : World) (h : SI w A zs) (hb : dtB zs = false) :
    Calls Try.prog 16 #[.slice A zs.length c] w fun e w' => RetT zs (dtN zs) w e w' := by
  have Hh := hd h
  have Hf : Hid (RetT zs (dtN zs) w (.returned (.slice none 0 0)) w) := hd ⟨none, 0, [], by rw [dtN_no hb], by rw [dtN_no hb]; rfl, SR.nil_ _ _, RowsAt.nil _ _, Below.refl _ _⟩
  clear h
  cases ht : tabV zs
  · have Ht := hd ht
    clear ht hb
    go_enter Try.func16, Try.ntmps16
    go_wp2_with fail
    refine (TableValid_v A c zs false _ Hh.out Ht.out).mono ?_
    rintro e w' ⟨rfl, rfl⟩
    go_wp2
    go_ret
    exact Hf.out
  · have h30 : (30 : Int) < zs.length := by simp [dtB, ht] at hb; omega
    have Ht := hd ht
    clear ht hb
    go_enter Try.func16, Try.ntmps16
    go_wp2_with fail
    refine (TableValid_v A c zs true _ Hh.out Ht.out).mono ?_
    rintro e w' ⟨rfl, rfl⟩
    go_wp2
    go_ret
    exact Hf.out

set_option maxHeartbeats 1600000 in
theorem DiffTable_yes (A : Option Addr) (c : Nat) (zs : List Int) (w : World) (h : SI w A zs) (hb : dtB zs = true) :
    Calls Try.prog 16 #[.slice A zs.length c] w fun e w' => RetT zs (dtN zs) w e w' := by
  obtain ⟨i0, hi, hz0, hz1, hz2⟩ := info_parts infoL
  have Hh := hd h
  have hbb : tabV zs = true ∧ zs.length ≤ 30 := by simpa [dtB] using hb
  obtain ⟨ht, h30⟩ := hbb
  have hpos : 0 < zs.length := (tabV_iff.1 ht).1
  have h30' : ¬ (30 : Int) < zs.length := by omega
  have Ht := hd ht
  have Hn := hd (dtN_yes hb)
  have Hb := hd hb
  clear h ht hb
  rw [Hn.out]
  go_enter Try.func16, Try.ntmps16
  go_wp2_with fail
  refine (TableValid_v A c zs true _ Hh.out Ht.out).mono ?_
  rintro e w' ⟨rfl, rfl⟩
  go_wp2_with (at_make; go_loud (refine wpList_make_own _ rfl _ _ 25 rfl w.heap.size 23 i0 (.slice none 0 0) 1 Try.underlying25 hi hz0 hz1 .i64 .i64 _ zs.length rfl rfl rfl (by rw [hz2] <;> omega) (by unfold maxLen <;> omega) (Nat.le_refl _) ?_; intro w1 hown hgrow; have Hown := hd hown; have hbel0 : Below w.heap.size w w1 := (Below.refl _ _).grown hgrow (Nat.le_refl _) (by simp); have Hs := hd (Hh.out.below hbel0); have hsz : w.heap.size < w1.heap.size := (by have := hown.lt _ rfl; omega); clear hown hgrow))
  refine (Clone_n _ A c zs _ rfl Hs.out hpos).mono ?_
  rintro e w2 ⟨A2, c2, rfl, own2, b2⟩
  have hbel2 := hbel0.trans (b2.mono hbel0.size)
  have hsz2 : w.heap.size < w2.heap.size := Nat.lt_of_lt_of_le hsz b2.size
  have Hown2 := hd (Hown.out.kept (row := none) ⟨b2.os, b2.tape, b2.output, b2.size, fun j hj _ => b2.block j hj⟩ (.inr (by simp [Value.ownBlock])))
  have Hs2 := hd own2.si
  have Ho2 : Hid (Off A2 w.heap.size) := hd (own2.off hsz)
  clear own2 b2 hbel0 Hown
  go_wp2
  go_loopw [3, 4] (fun r row wr => ∃ (k : Nat) (A' : Option Addr) (c' : Nat) (Vs : List Value), k ≤ zs.length ∧ r = .slice (some ⟨w.heap.size, 0, none⟩) k zs.length ∧ row = .slice A' (nbrs k zs).length c' ∧ SI wr A' (nbrs k zs) ∧ Off A' w.heap.size ∧
      wr.ownsRow w.heap.size 23 1 (.slice (some ⟨w.heap.size, 0, none⟩) k zs.length) k Vs ∧ Vs.length = k ∧ RowsAt wr Vs zs ∧ RowsOff Vs (some w.heap.size) ∧ Below w.heap.size w wr ∧ w.heap.size < wr.heap.size)
    (fun r _ _ => zs.length - sliceLen r)
  case atStart => exact ⟨0, A2, c2, [], by omega, rfl, rfl, Hs2.out, Ho2.out, Hown2.out, rfl, RowsAt.nil _ _, RowsOff.nil _, hbel2, hsz2⟩
  case round =>
    clear hbel2 hsz2 Hs2 Ho2 Hown2 Hs hsz
    obtain ⟨k, A', c', Vs, hk, rfl, rfl, hs, hoff, hown, hvl, hrows, hroff, hbel, hsz⟩ := hrel
    have Hs := hd hs
    have Hoff := hd hoff
    have Hown := hd hown
    have Hvl := hd hvl
    have Hr := hd hrows
    have Hro := hd hroff
    clear hs hoff hown hvl hrows hroff
    have Hln := hd (nbrs_length k zs)
    by_cases hlt : k < zs.length
    · have hpos2 : (0 : Int) < (nbrs k zs).length := by rw [Hln.out]; omega
      go_wp2_with (at_builtin; refine wpList_append_fits _ rfl _ _ 25 rfl w.heap.size 23 i0 1 Try.underlying25 hi hz1 w.heap.size k zs.length _ rfl (Hown.out.alloc _) ⟨wr.heap.size, 0, none⟩ 1 1 [.slice A' (nbrs k zs).length c'] rfl rfl ?c1 ?c2 (by omega) ?_)
      case c1 =>
        intro j u hj
        match j, hj with
        | 0, hj => simp at hj; subst hj; simp [Addr.add]
      case c2 => intro u hu; simp at hu; subst hu; rfl
      intro w2 hown2 hgrow2
      have Hx2 := hd ((Hs.out.alloc _).grown hgrow2 Hoff.out)
      have HB2 := hd (nbrs_2e18 Hb.out hlt)
      have hbel2 : Below w.heap.size w w2 := (hbel.alloc (Nat.le_of_lt hsz) _).grown hgrow2 (by simp; omega) (by simp)
      have hsz2 : w.heap.size < w2.heap.size := by have := hgrow2.size; simp at this; omega
      have Hown2 := hd hown2
      have Hr2 := hd (((Hr.out.below ((Below.refl wr.heap.size wr).alloc (Nat.le_refl _) _)).grown hgrow2 Hro.out).snoc (c := c') Hvl.out Hx2.out)
      have Hro2 := hd (Hro.out.snoc (n := (nbrs k zs).length) (c := c') (fun a ha e => by injection e with e; exact Hoff.out a ha e.symm))
      clear hown2 hgrow2
      go_wp2_with fail
      refine (neighbors_any A' c' (nbrs k zs) _ Hx2.out HB2.out).mono ?_
      rintro e w3 ⟨A3, c3, rfl, hown3, hbel3⟩
      have hown3' : OwnI 3 w2.heap.size w3 A3 c3 (nbrs (k + 1) zs) := hown3
      have hb3 := hbel3.mono (Nat.le_of_lt hsz2)
      go_wp2
      go_roundw
      case rel =>
        refine ⟨k + 1, A3, c3, _, by omega, rfl, rfl, hown3'.si, hown3'.off hsz2, Hown2.out.kept (row := none) ⟨hbel3.os, hbel3.tape, hbel3.output, hbel3.size, fun j hj _ => hbel3.block j hj⟩ (.inr (by simp [Value.ownBlock])), by simp [Hvl.out], Hr2.out.below hbel3, Hro2.out, hbel2.trans hb3, Nat.lt_of_lt_of_le hsz2 hbel3.size⟩
      case measure => simp [sliceLen]; omega
    · obtain rfl : k = zs.length := by omega
      have hz0' : ¬ (0 : Int) < (nbrs zs.length zs).length := by rw [Hln.out]; omega
      have Hg : Hid (SG asV wr (some ⟨w.heap.size, 0, none⟩) Vs) := hd ((OwnG.of_row (f := asV) (xs := Vs) (by rw [map_asV]; exact Hown.out) Hvl.out (by omega)).sg)
      go_wp2
      go_ret
      exact ⟨_, _, Vs, rfl, Hvl.out, Hg.out, Hr.out, hbel⟩

theorem DiffTable_any (A : Option Addr) (c : Nat) (zs : List Int) (w : World) (h : SI w A zs) :
    Calls Try.prog 16 #[.slice A zs.length c] w fun e w' => RetT zs (dtN zs) w e w' := by
  cases hb : dtB zs
  · exact DiffTable_none A c zs w h hb
  · exact DiffTable_yes A c zs w h hb

theorem DiffsOf_yes (A : Option Addr) (c : Nat) (zs : List Int) (w : World) (h : SI w A zs) (hb : dtB zs = true) :
    Calls Try.prog 18 #[.slice A zs.length c] w fun e w' => RetI 3 w.heap.size w (fd zs) e w' := by
  have Hh := hd h
  have hbb : tabV zs = true ∧ zs.length ≤ 30 := by simpa [dtB] using hb
  obtain ⟨ht, h30⟩ := hbb
  have h30' : ¬ (30 : Int) < zs.length := by omega
  have Ht := hd ht
  have Hb := hd hb
  clear h ht hb
  go_enter Try.func18, Try.ntmps18
  go_wp2_with fail
  refine (TableValid_v A c zs true _ Hh.out Ht.out).mono ?_
  rintro e w' ⟨rfl, rfl⟩
  go_wp2_with fail
  refine (firstDifferences_any A c zs _ Hh.out (fun k hk => nbrs_2e18 Hb.out hk)).mono ?_
  rintro e w1 ⟨A1, c1, rfl, own, b1⟩
  have Own := hd own
  clear own
  go_wp2
  go_ret
  exact ⟨A1, c1, rfl, Own.out, b1⟩

theorem l2Short_any (A : Option Addr) (c : Nat) (zs : List Int) (b : Bool) (w : World) (h : SI w A zs) (hb : dtB zs = b) :
    Calls Try.prog 131 #[.slice A zs.length c] w fun e w' => e = .returned (.bool b) ∧ w = w' := by
  subst hb
  have Hh := hd h
  clear h
  cases ht : tabV zs
  · have Ht := hd ht
    have Hf : Hid (dtB zs = false) := hd (by simp [dtB, ht])
    clear ht
    go_enter Try.func131, Try.ntmps131
    go_wp2_with fail
    refine (sTableValid_t A c zs false _ Hh.out Ht.out).mono ?_
    rintro e w' ⟨rfl, rfl⟩
    go_wp2
    go_ret
    exact ⟨ret_bool Hf.out.symm, rfl⟩
  · have Ht := hd ht
    have Hf : Hid (dtB zs = decide (zs.length ≤ 30)) := hd (by simp [dtB, ht])
    clear ht
    go_enter Try.func131, Try.ntmps131
    go_wp2_with fail
    refine (sTableValid_t A c zs true _ Hh.out Ht.out).mono ?_
    rintro e w' ⟨rfl, rfl⟩
    by_cases h30 : (zs.length : Int) ≤ 30
    · have Hg : Hid (true = dtB zs) := hd (by rw [Hf.out]; simp; omega)
      go_wp2
      go_ret
      exact ⟨ret_bool Hg.out, rfl⟩
    · have Hg : Hid (decide ((zs.length : Int) ≤ 30) = dtB zs) := hd (by rw [Hf.out]; exact decide_eq_decide.2 (by omega))
      go_wp2
      go_ret
      exact ⟨ret_bool Hg.out, rfl⟩

end Go.Proofs.Ytkmblobfamhoiaa
