/- Contracts of what draws engines: some engine, or some list of strings. -/
import Derived.Test.YtcalheieakppmaaDrawI
import Derived.Test.YtcalheieakppmaaSpeM
import Derived.Test.YtcalheieakppmaaEngC
import Derived.Deep.RegionLaw
namespace Go.Proofs.Ytcalheieakppmaa
open Go.RowKit
set_option maxRecDepth 4000

theorem Cl.put {w : World} {g : Nat} {v : Value} (h : Cl w g v) (x : Value) : Cl (w.setCell ⟨g, 0, none⟩ x) g x :=
  ⟨World.cell?_setCell_same' _ _ _ (by rw [h.1]; rfl), by rw [World.frozen?_setCell]; exact h.2.1, Nat.lt_of_lt_of_le h.2.2 (grown_set w ⟨g, 0, none⟩ x).size⟩

theorem step_appG {α : Type} {f : α → Value} {P : Program} {w : World} {ops : Array Oper} {o : Oper} {a : Act} {K : Act → World → Prop} {Q : Exit → Act → World → Prop} {X : Prop} (hg : o.guard = none) (s x : Operand) (t E : TypeId)
    (ho : o.op = .call { callee := .builtin .append, args := #[s, x], argTypes := #[t, t] })
    (B : Nat) (i : TypeInfo) (z : Value) (by_ : Nat) (ht : P.underlying t = some (.slice E)) (hi : P.info? E = some i) (hz : i.zero = some z) (h1 : i.size = 1) (h8 : i.bytes = by_) (hzc : z.cells.size = 1) (hb16 : by_ ≤ 100)
    (n : Nat) (A : Option Addr) (c : Nat) (zs : List α) (g : Nat) (y : α) (hy1 : (f y).oneCell' = true) (hs : a.eval s = .slice A n c) (hx : a.eval x = .slice (some ⟨g, 0, none⟩) 1 1) (hn : zs.length = n)
    (hc : w.cell? ⟨g, 0, none⟩ = some (f y)) (hown : OwnG f E B w A c zs) (hlen : n < 1000000) (hB : B ≤ w.heap.size)
    (h : ∀ A' c' w', OwnG f E B w' A' c' (zs ++ [y]) → w.grownBy w' (Value.slice A n c).ownBlock → Below B w w' → w.heap.size ≤ w'.heap.size → K (a.put o.dst (.slice A' (n + 1) c')) w') :
    if Region.wanted o (yielded ops a.tmps) = true then Oper.wp P o a w K Q else X := by
  have hw : Region.wanted o (yielded ops a.tmps) = true := by simp [Region.wanted, hg]
  rw [if_pos hw]
  subst hn
  refine wp_append_own _ s x t ho B E i z 1 by_ ht hi hz h1 h8 hzc (by decide) (.slice A zs.length c) zs.length (zs.map f) hs hown.2 ⟨g, 0, none⟩ 1 1 [f y] hx rfl ?_ ?_ (by unfold maxLen; omega) ?_ hB ?_
  · intro j u hj
    match j, hj with
    | 0, hj =>
      simp at hj; subst hj
      have : (⟨g, 0, none⟩ : Addr).add 0 = ⟨g, 0, none⟩ := by simp [Addr.add]
      rw [this]; exact hc
  · intro u hu; simp at hu; subst hu; exact hy1
  · have := Nat.mul_le_mul (show zs.length + 1 ≤ 1000000 by omega) hb16
    omega
  · intro v' w' ho' hgr hnil
    have hlt := hown.2.lt
    have hbel : Below B w w' := (Below.refl _ _).grown hgr hB (fun k hk => (hlt k hk).1)
    rcases ho'.2 with ⟨_, h0⟩ | ⟨g, cap, cur, hv, h2⟩
    · omega
    · subst hv
      refine h _ _ _ ⟨by simp; omega, ?_⟩ hgr hbel hbel.size
      simpa using ho'

theorem OwnG.cut0 {α : Type} {f : α → Value} {E : TypeId} {B : Nat} {w : World} {A : Option Addr} {c : Nat} {zs : List α} (h : OwnG f E B w A c zs) : OwnG f E B w A c [] := by
  refine ⟨by simp, ?_⟩
  rcases h.2.2 with ⟨h1, h2⟩ | ⟨g, cap, cur, hv, h3, h4, h5, h6, h7, h8⟩
  · simp only [Value.slice.injEq] at h1
    obtain ⟨rfl, _, rfl⟩ := h1
    exact World.ownsRow_nil _ _ _ _
  · simp only [Value.slice.injEq] at hv
    obtain ⟨rfl, _, rfl⟩ := hv
    exact ⟨by simp, .inr ⟨g, c, cur, rfl, h3, h4, by simp, h6, h7, by simp⟩⟩

def Sizes (cs : List ByteArray) (m : Nat) : Prop := ∀ s ∈ cs, s.size ≤ m
theorem Sizes.snoc {cs : List ByteArray} {m : Nat} {s : ByteArray} (h : Sizes cs m) (hs : s.size ≤ m) : Sizes (cs ++ [s]) m := by
  intro x hx
  rcases List.mem_append.1 hx with h1 | h1
  · exact h x h1
  · simp at h1; subst h1; exact hs
theorem Sizes.set {cs : List ByteArray} {m k : Nat} {s : ByteArray} (h : Sizes cs m) (hs : s.size ≤ m) : Sizes (cs.set k s) m := by
  intro x hx
  rcases List.mem_or_eq_of_mem_set hx with h1 | rfl
  · exact h x h1
  · exact hs
theorem Sizes.more {cs : List ByteArray} {m m' : Nat} (h : Sizes cs m) (hm : m ≤ m') : Sizes cs m' := fun s hs => Nat.le_trans (h s hs) hm

/-- An engine is drawn: a list of the call's own of 1 to 7 strings. -/
def DrawnE (g : Nat) (P : Int) (w : World) (e : Ending) (w' : World) : Prop :=
  ∃ A c cs, e = .returned (.agg #[.slice A cs.length c]) ∧ (1 ≤ cs.length ∧ cs.length ≤ 7 ∧ Sizes cs 12) ∧ OwnS 9 w.heap.size w' A c cs ∧ Rdr w' g P ∧ w.grownBy w' (some g)

def someNums : List Int := [3, 4, 1, 2, 5, 7]
/-- What the loop of l3Some keeps. -/
def SomeR (w : World) (g : Nat) (P : Int) (n0 k : Nat) (A : Option Addr) (c : Nat) (cs : List ByteArray) (wr : World) : Prop :=
  cs.length + k = n0 ∧ Sizes cs 12 ∧ OwnS 9 (w.heap.size + 2) wr A c cs ∧ Cl wr w.heap.size (.slice none 0 0) ∧ Cl wr (w.heap.size + 1) (.slice A cs.length c) ∧ Rdr wr g (P + 2 + 50 * (cs.length : Int)) ∧ Only w.heap.size g w wr

set_option maxHeartbeats 3200000 in
theorem l3Some_any (g : Nat) (P : Int) (w : World) (h : Rdr w g P) (hP : P ≤ 1000) :
    Calls Try.prog 131 #[.pointer (some ⟨g, 0, none⟩)] w fun e w' => DrawnE g (P + 400) w e w' := by
  obtain ⟨i0, hi, hz0, hz1, hz2⟩ := info_parts infoS
  have hgw := h.lt
  have C0 := hd (Cs.two w (.slice none 0 0) (.slice none 0 0) 31 31)
  have R0 := hd (h.below C0.out.1 hgw)
  have hsz0 : ((w.alloc (.cells #[.slice none 0 0] 31)).alloc (.cells #[.slice none 0 0] 31)).heap.size = w.heap.size + 2 := by simp
  have hgw0 : g < ((w.alloc (.cells #[.slice none 0 0] 31)).alloc (.cells #[.slice none 0 0] 31)).heap.size := by rw [hsz0]; omega
  have N0 := hd (Only.below (g := g) C0.out.1 (Nat.le_refl _))
  clear h
  go_enter Try.func131, Try.ntmps131
  go_wp2_with fail
  refine (l1Any_any g P _ R0.out (by omega)).mono ?_
  rintro e w1 ⟨W, rfl, hW, r1, g1⟩
  obtain ⟨hW1, hW12⟩ := hW
  obtain ⟨W, rfl⟩ := Int.eq_ofNat_of_zero_le (show 0 ≤ W by omega)
  have hsz1 : w.heap.size + 2 ≤ w1.heap.size := by have := g1.size; rw [hsz0] at this; exact this
  have Ca := hd ((C0.out.2 _ (List.mem_cons_self)).1.other g1 (by simp; omega))
  have Cb := hd ((C0.out.2 _ (List.mem_cons_of_mem _ List.mem_cons_self)).1.other g1 (by simp; omega))
  have N1 := hd (N0.out.trans (Only.grown (B := w.heap.size) g1 (by rw [hsz0]; omega)))
  have R1 := hd r1
  clear r1 g1 hsz0 hgw0
  have hgw1 : g < w1.heap.size := by omega
  have Hlit : Hid (OwnI 3 w1.heap.size (w1.alloc (.cells #[.int .i64 3, .int .i64 4, .int .i64 1, .int .i64 2, .int .i64 5, .int .i64 7] 3)) (some ⟨w1.heap.size, 0, none⟩) 6 someNums) := hd
    ⟨by simp [someNums], World.ownsRow_lit _ #[.int .i64 3, .int .i64 4, .int .i64 1, .int .i64 2, .int .i64 5, .int .i64 7] 6 (Nat.le_refl _) (by simp [maxLen]) rfl⟩
  have Ball := hd ((Below.refl w1.heap.size w1).alloc (Nat.le_refl _) (.cells #[.int .i64 3, .int .i64 4, .int .i64 1, .int .i64 2, .int .i64 5, .int .i64 7] 3))
  have Ra := hd (R1.out.below Ball.out hgw1)
  have Hbl : Hid (0 < someNums.length) := hd (by simp [someNums])
  go_wp2_with fail
  refine (num_any g (P + 1) _ 6 someNums _ Ra.out (by omega) Hlit.out.si (Hlit.out.off hgw1) Hbl.out).mono ?_
  rintro e w2 ⟨x, rfl, hx, r2, g2⟩
  obtain ⟨n0, rfl, hn1, hn7⟩ : ∃ n : Nat, x = n ∧ 1 ≤ n ∧ n ≤ 7 := by
    unfold someNums at hx
    simp only [List.mem_cons, List.not_mem_nil, or_false] at hx
    exact ⟨x.toNat, by omega, by omega, by omega⟩
  have Ca := hd ((Ca.out.below Ball.out).other g2 (by simp; omega))
  have Cb := hd ((Cb.out.below Ball.out).other g2 (by simp; omega))
  have N2 := hd ((N1.out.trans (Only.below (g := g) Ball.out (by omega))).trans (Only.grown (B := w.heap.size) g2 (by simp; omega)))
  have hsz2 : w.heap.size + 2 ≤ w2.heap.size := by have := g2.size; simp at this; omega
  have HR : Hid (SomeR w g P n0 n0 none 0 [] w2) := hd ⟨by simp, (fun s hs => by simp at hs), OwnG.nil_ _ _ _ _, Cb.out, Ca.out, r2.more (by simp; omega), N2.out⟩
  clear hx r2 g2
  go_wp2
  go_loopw [5] (fun i wr => ∃ (k : Nat) (A' : Option Addr) (c' : Nat) (cs : List ByteArray), i = .int .i64 k ∧ SomeR w g P n0 k A' c' cs wr) (fun i _ => (intOf i).toNat)
  case atStart => exact ⟨n0, none, 0, [], rfl, HR.out⟩
  case round =>
    clear HR N2 Ca Cb N1 N0 R1 R0 Ra Ball Hlit Hbl C0
    obtain ⟨k, A', c', cs, rfl, hr⟩ := hrel
    obtain ⟨r1, r2, r3, r4, r5, r6, r7⟩ := hr
    have Sz := hd r2
    have Own := hd r3
    have Cr := hd r4
    have Ce := hd r5
    have Rd := hd r6
    have Nn := hd r7
    have hszr : w.heap.size ≤ wr.heap.size := r7.size
    clear r2 r3 r4 r5 r6 r7
    by_cases hk : 0 < k
    · obtain ⟨k, rfl⟩ : ∃ j, k = j + 1 := ⟨k - 1, by omega⟩
      go_wp2_with fail
      refine (l1Some_any g W _ _ Rd.out (by omega) (by omega)).mono ?_
      rintro e w3 ⟨s, rfl, hs, r3, g3⟩
      have Own3 := hd (Own.out.keep_lo g3 (fun r hr => by simp at hr; omega))
      have Cr3 := hd (Cr.out.other g3 (by omega))
      have Ce3 := hd (Ce.out.other g3 (by omega))
      have Nn3 := hd (Nn.out.trans (Only.grown (B := w.heap.size) g3 hszr))
      have Rd3 := hd r3
      have hsz3 : w.heap.size ≤ w3.heap.size := Nn3.out.size
      clear r3 g3
      go_wp2_with fail
      refine (pick_any g _ 3 _ Rd3.out (by omega)).mono ?_
      rintro e w4 ⟨v, rfl, hv, r4, g4⟩
      have Own4 := hd (Own3.out.keep_lo g4 (fun r hr => by simp at hr; omega))
      have Cr4 := hd (Cr3.out.other g4 (by omega))
      have Ce4 := hd (Ce3.out.other g4 (by omega))
      have Nn4 := hd (Nn3.out.trans (Only.grown (B := w.heap.size) g4 hsz3))
      have Rd4 := hd r4
      have hsz4 : w.heap.size ≤ w4.heap.size := Nn4.out.size
      clear hv r4 g4
      by_cases hv0 : 0 < v
      · go_wp2_with fail
        refine (pick_any g _ 256 _ Rd4.out (by omega)).mono ?_
        rintro e w5 ⟨u, rfl, hu, r5, g5⟩
        obtain ⟨hu0, hu1⟩ := hu
        have hu2 := hu1 (by omega)
        have Own5 := hd (Own4.out.keep_lo g5 (fun r hr => by simp at hr; omega))
        have Cr5 := hd (Cr4.out.other g5 (by omega))
        have Ce5 := hd (Ce4.out.other g5 (by omega))
        have Nn5 := hd (Nn4.out.trans (Only.grown (B := w.heap.size) g5 hsz4))
        have Rd5 := hd r5
        have hsz5 : w.heap.size ≤ w5.heap.size := Nn5.out.size
        have hg5 : g < w5.heap.size := by omega
        clear hu1 r5 g5
        go_wp2_with fail
        refine (l1Show_any _ W _ (by omega)).mono ?_
        rintro e w6 ⟨rfl, b6⟩
        have hs6 : (showC W (u - 100)).size ≤ 12 := by rw [showC_size]; omega
        obtain ⟨s6, hs6e⟩ : ∃ s6, s6 = showC W (u - 100) := ⟨_, rfl⟩
        rw [← hs6e] at hs6 ⊢
        have Own6 := hd (Own5.out.below b6)
        have Cr6 := hd (Cr5.out.below b6)
        have Ce6 := hd (Ce5.out.below b6)
        have Nn6 := hd (Nn5.out.trans (Only.below (g := g) b6 hsz5))
        have Rd6 := hd (Rd5.out.below b6 hg5)
        have hsz6 : w.heap.size + 2 ≤ w6.heap.size := by have := Ce6.out.2.2; omega
        have Sz6 := hd (Sz.out.snoc hs6)
        clear b6 hs6e
        obtain ⟨c1, f1, -⟩ := Ce6.out
        obtain ⟨c2, f2, -⟩ := Cr6.out
        go_wp2_with (at_builtin; refine wpList_appG (f := Value.string) rfl _ _ 27 9 rfl (w.heap.size + 2) i0 (.string ByteArray.empty) 16 Try.underlying27 hi hz0 hz1 hz2 rfl (by decide) cs.length A' c' cs w6.heap.size s6 rfl rfl rfl rfl (new_cell _ _ _) (Own6.out.alloc _) (by omega) (by simp; omega) ?_; intro A5 c5 w7 own7 gr7 b7 hz7; have Own7 := hd own7; have b67 := ((Below.refl (w.heap.size + 2) w6).alloc hsz6 (.cells #[.string s6] 9)).trans b7; have Cr7 := hd (Cr6.out.lowB b67 (by omega)); have Ce7 := hd (Ce6.out.lowB b67 (by omega)); have Nn7 := hd (Nn6.out.trans (Only.below (g := g) b67 (by omega))); have Rd7 := hd (Rd6.out.below b67 (by omega)); clear own7 gr7 b7 b67 c1 f1 c2 f2; obtain ⟨c1, f1, -⟩ := Ce7.out; obtain ⟨c2, f2, -⟩ := Cr7.out)
        have bs := (Below.refl (w.heap.size + 1) w7).setCell (p := ⟨w.heap.size + 1, 0, none⟩) (Nat.le_refl _) (.slice A5 (cs.length + 1) c5)
        have Hn : Hid (SomeR w g P n0 k A5 c5 (cs ++ [s6]) (w7.setCell ⟨w.heap.size + 1, 0, none⟩ (.slice A5 (cs.length + 1) c5))) := hd
          ⟨by simp; omega, Sz6.out, Own7.out.keep_lo (grown_set w7 ⟨w.heap.size + 1, 0, none⟩ (.slice A5 (cs.length + 1) c5)) (fun r hr => by simp at hr; omega), Cr7.out.other (grown_set w7 ⟨w.heap.size + 1, 0, none⟩ (.slice A5 (cs.length + 1) c5)) (by simp), by simpa using Ce7.out.put (.slice A5 (cs.length + 1) c5), (Rd7.out.below bs (by omega)).more (by simp; omega), Nn7.out.trans (Only.below (g := g) bs (by omega))⟩
        clear bs
        go_roundw
        case rel => exact ⟨k, A5, c5, _, by go_num, Hn.out⟩
        case measure => simp [intOf] <;> omega
      · have hs6 : s.size ≤ 12 := by omega
        have Rd6 := hd Rd4.out
        have hsz6 : w.heap.size + 2 ≤ w4.heap.size := by have := Ce4.out.2.2; omega
        have Sz6 := hd (Sz.out.snoc hs6)
        obtain ⟨c1, f1, -⟩ := Ce4.out
        obtain ⟨c2, f2, -⟩ := Cr4.out
        go_wp2_with (at_builtin; refine wpList_appG (f := Value.string) rfl _ _ 27 9 rfl (w.heap.size + 2) i0 (.string ByteArray.empty) 16 Try.underlying27 hi hz0 hz1 hz2 rfl (by decide) cs.length A' c' cs w4.heap.size s rfl rfl rfl rfl (new_cell _ _ _) (Own4.out.alloc _) (by omega) (by simp; omega) ?_; intro A5 c5 w7 own7 gr7 b7 hz7; have Own7 := hd own7; have b67 := ((Below.refl (w.heap.size + 2) w4).alloc hsz6 (.cells #[.string s] 9)).trans b7; have Cr7 := hd (Cr4.out.lowB b67 (by omega)); have Ce7 := hd (Ce4.out.lowB b67 (by omega)); have Nn7 := hd (Nn4.out.trans (Only.below (g := g) b67 (by omega))); have Rd7 := hd (Rd6.out.below b67 (by omega)); clear own7 gr7 b7 b67 c1 f1 c2 f2; obtain ⟨c1, f1, -⟩ := Ce7.out; obtain ⟨c2, f2, -⟩ := Cr7.out)
        have bs := (Below.refl (w.heap.size + 1) w7).setCell (p := ⟨w.heap.size + 1, 0, none⟩) (Nat.le_refl _) (.slice A5 (cs.length + 1) c5)
        have Hn : Hid (SomeR w g P n0 k A5 c5 (cs ++ [s]) (w7.setCell ⟨w.heap.size + 1, 0, none⟩ (.slice A5 (cs.length + 1) c5))) := hd
          ⟨by simp; omega, Sz6.out, Own7.out.keep_lo (grown_set w7 ⟨w.heap.size + 1, 0, none⟩ (.slice A5 (cs.length + 1) c5)) (fun r hr => by simp at hr; omega), Cr7.out.other (grown_set w7 ⟨w.heap.size + 1, 0, none⟩ (.slice A5 (cs.length + 1) c5)) (by simp), by simpa using Ce7.out.put (.slice A5 (cs.length + 1) c5), (Rd7.out.below bs (by omega)).more (by simp; omega), Nn7.out.trans (Only.below (g := g) bs (by omega))⟩
        clear bs
        go_roundw
        case rel => exact ⟨k, A5, c5, _, by go_num, Hn.out⟩
        case measure => simp [intOf] <;> omega
    · obtain rfl : k = 0 := by omega
      obtain ⟨c1, f1, -⟩ := Ce.out
      obtain ⟨c2, f2, -⟩ := Cr.out
      have bs := (Below.refl w.heap.size wr).setCell (p := ⟨w.heap.size, 0, none⟩) (Nat.le_refl _) (.slice A' cs.length c')
      have Hn : Hid (DrawnE g (P + 400) w (.returned (.agg #[.slice A' cs.length c'])) (wr.setCell ⟨w.heap.size, 0, none⟩ (.slice A' cs.length c'))) := hd
        ⟨A', c', cs, rfl, ⟨by omega, by omega, Sz.out⟩, (Own.out.keep_lo (grown_set wr ⟨w.heap.size, 0, none⟩ (.slice A' cs.length c')) (fun r hr => by simp at hr; omega)).low (by omega), (Rd.out.below bs hgw).more (by omega), (Nn.out.trans (Only.below (g := g) bs (Nat.le_refl _))).grownBy⟩
      clear bs
      go_wp2
      exact bodyPost_ret (v := .agg #[.slice A' cs.length c']) (by simp [results, Try.results131, c2, go_sem]) rfl Hn.out

end Go.Proofs.Ytcalheieakppmaa
