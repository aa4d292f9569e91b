/- The contract of l3Bad once more: no older block but the source and the list itself changes. -/
import Derived.Test.YtkmblobfamhoiaaGrI
import Derived.Maps.AppendAt
namespace Go.Proofs.Ytkmblobfamhoiaa
open Go.RowKit
set_option maxRecDepth 4000

theorem step_appL {α : Type} {f : α → Value} {P : Program} {w : World} {ops : Array Oper} {o : Oper} {a : Act} {K : Act → World → Prop} {Q : Exit → Act → World → Prop} {X : Prop} (hg : o.guard = none) (s x : Operand) (t E : TypeId)
    (ho : o.op = .call { callee := .builtin .append, args := #[s, x], argTypes := #[t, t] })
    (B : Nat) (i : TypeInfo) (z : Value) (by_ : Nat) (ht : P.underlying t = some (.slice E)) (hi : P.info? E = some i) (hz : i.zero = some z) (h1 : i.size = 1) (h8 : i.bytes = by_) (hzc : z.cells.size = 1) (hb16 : by_ ≤ 100)
    (n : Nat) (A : Option Addr) (c : Nat) (zs : List α) (g : Nat) (y : α) (hy1 : (f y).oneCell' = true) (hs : a.eval s = .slice A n c) (hx : a.eval x = .slice (some ⟨g, 0, none⟩) 1 1) (hn : zs.length = n)
    (hc : w.cell? ⟨g, 0, none⟩ = some (f y)) (hown : OwnG f E B w A c zs) (hlen : n < 1000000) (hB : B ≤ w.heap.size)
    (h : ∀ A' c' w', OwnG f E B w' A' c' (zs ++ [y]) → w.grownBy w' (Value.slice A n c).ownBlock → ((Value.slice A' (n + 1) c').ownBlock = (Value.slice A n c).ownBlock ∨ (Value.slice A' (n + 1) c').ownBlock = some w.heap.size) → Below B w w' → w.heap.size ≤ w'.heap.size → K (a.put o.dst (.slice A' (n + 1) c')) w') :
    if Region.wanted o (yielded ops a.tmps) = true then Oper.wp P o a w K Q else X := by
  have hw : Region.wanted o (yielded ops a.tmps) = true := by simp [Region.wanted, hg]
  rw [if_pos hw]
  subst hn
  obtain ⟨v', w', hr, ho', hgr, hnil, hat⟩ := run_append_own_at (P := P) w B t o.type E i z 1 by_ ht hi hz h1 h8 hzc (by decide) (.slice A zs.length c) zs.length (zs.map f) hown.2 ⟨g, 0, none⟩ 1 1 [f y] rfl
    (by
      intro j u hj
      match j, hj with
      | 0, hj =>
        simp at hj; subst hj
        have : (⟨g, 0, none⟩ : Addr).add 0 = ⟨g, 0, none⟩ := by simp [Addr.add]
        rw [this]; exact hc) (by intro u hu; simp at hu; subst hu; exact hy1) (by unfold maxLen; omega)
    (by have := Nat.mul_le_mul (show zs.length + 1 ≤ 1000000 by omega) hb16; omega) hB
  have hlt := hown.2.lt
  have hbel : Below B w w' := (Below.refl _ _).grown hgr hB (fun k hk => (hlt k hk).1)
  rcases ho'.2 with ⟨_, h0⟩ | ⟨g9, cap, cur, hv, h2⟩
  · omega
  · subst hv
    unfold Oper.wp execOp
    simp only [ho, resolve, invoke, builtin, Sem.run_bind, Sem.run_pure, Result.andThen_ok, List.map_toArray, List.map_cons, List.map_nil, hs, hx, hr]
    exact h _ _ _ ⟨by simp; omega, by simpa using ho'⟩ hgr hat hbel hbel.size

/-- No older block but g and gp has changed. -/
def Keep (w : World) (g gp : Nat) (wr : World) : Prop := w.heap.size ≤ wr.heap.size ∧ ∀ i, i < w.heap.size → i ≠ g → i ≠ gp → wr.heap[i]? = w.heap[i]?
theorem Keep.refl (w : World) (g gp : Nat) : Keep w g gp w := ⟨Nat.le_refl _, fun _ _ _ _ => rfl⟩
theorem Keep.drew {w a : World} {g gp : Nat} (h : Keep w g gp a) : Keep w g gp a.drew := h
theorem Keep.below {w a b : World} {g gp : Nat} (h : Keep w g gp a) (k : Below w.heap.size a b) : Keep w g gp b :=
  ⟨Nat.le_trans h.1 k.size, fun i hi h1 h2 => (k.block i hi).trans (h.2 i hi h1 h2)⟩
theorem Keep.grown {w a b : World} {g gp r : Nat} (h : Keep w g gp a) (k : a.grownBy b (some r)) (hr : r = g ∨ r = gp ∨ w.heap.size ≤ r) : Keep w g gp b :=
  ⟨Nat.le_trans h.1 k.size, fun i hi h1 h2 => (k.block i (Nat.lt_of_lt_of_le hi h.1) (by simp; omega)).trans (h.2 i hi h1 h2)⟩
def KeepA (w : World) (g gp : Nat) (A : Option Addr) (wr : World) : Prop := Keep w g gp wr ∧ ∃ ga, A = some ⟨ga, 0, none⟩ ∧ (ga = gp ∨ w.heap.size ≤ ga)

/-- Where the list lies that is returned. -/
def AtK (w : World) (gp : Nat) (e : Ending) : Prop := ∀ A n c, e = .returned (.agg #[.slice A n c]) → ∀ a, A = some a → a.block = gp ∨ w.heap.size ≤ a.block
theorem atK_of {w : World} {gp g n c : Nat} (h : g = gp ∨ w.heap.size ≤ g) : AtK w gp (.returned (.agg #[.slice (some ⟨g, 0, none⟩) n c])) := by
  intro A m d e a ha
  simp only [Ending.returned.injEq, Value.agg.injEq] at e
  have e2 : A = some ⟨g, 0, none⟩ := by simp at e; exact e.1.symm
  rw [ha] at e2
  injection e2 with e2
  rw [e2]
  exact h

set_option maxHeartbeats 3200000 in
theorem l3BadK_any (B g gp : Nat) (P : Int) (c n : Nat) (cs : List ByteArray) (w : World) (hn : cs.length = n) (h : Rdr w g P) (hP : P ≤ 2000) (ho : OwnS 9 B w (some ⟨gp, 0, none⟩) c cs) (hg : g < B) (hB : B ≤ w.heap.size) (hl : 1 ≤ n) (hl' : n ≤ 7) (hs : Sizes cs 12) :
    Calls Try.prog 88 #[.pointer (some ⟨g, 0, none⟩), .agg #[.slice (some ⟨gp, 0, none⟩) n c]] w fun e w' => SpoiledE B g (P + 10) w e w' ∧ Keep w g gp w' ∧ AtK w gp e := by
  obtain ⟨i0, hi, hz0, hz1, hz2⟩ := info_parts infoS
  have hgw := h.lt
  have hcap := ho.cap
  rw [hn] at hcap
  have Hn := hd hn
  have Sz := hd hs
  have C0 := hd (Cs.two w (.slice (some ⟨gp, 0, none⟩) n c) (.slice none 0 0) 36 36)
  have R0 := hd (h.below C0.out.1 hgw)
  have O0 := hd ((ho.alloc (.cells #[.slice (some ⟨gp, 0, none⟩) n c] 36)).alloc (.cells #[.slice none 0 0] 36))
  have N0 := hd (Only.below (g := g) C0.out.1 hB)
  have M0 := hd ((Keep.refl w g gp).below C0.out.1)
  obtain ⟨gp', hA, hgp1, hgp2⟩ := ho.addr (by rw [hn]; omega)
  obtain rfl : gp = gp' := by injection hA with hA; injection hA
  have hsz0 : ((w.alloc (.cells #[.slice (some ⟨gp, 0, none⟩) n c] 36)).alloc (.cells #[.slice none 0 0] 36)).heap.size = w.heap.size + 2 := by simp
  obtain ⟨w0, hw0⟩ : ∃ w0, w0 = ((w.alloc (.cells #[.slice (some ⟨gp, 0, none⟩) n c] 36)).alloc (.cells #[.slice none 0 0] 36)) := ⟨_, rfl⟩
  rw [← hw0] at C0 R0 O0 N0 hsz0 M0
  have Hw0 := hd hw0
  obtain ⟨⟨c1, f1, -⟩, ⟨c2, f2, -⟩⟩ := C0.out.at2
  rw [hw0] at c1 f1 c2 f2
  clear h ho hn hs hw0
  go_enter Try.func88, Try.ntmps88
  go_wp2_with fail
  rw [← Hw0.out]
  refine (pick_any g P n _ R0.out (by omega)).mono ?_
  rintro e w1 ⟨k, rfl, hk, r1, g1⟩
  obtain ⟨hk0, hk1⟩ := hk
  have hk2 := hk1 (by omega)
  obtain ⟨k, rfl⟩ := Int.eq_ofNat_of_zero_le hk0
  have hkz : k < n := by omega
  have Ca := hd ((C0.out.2 (w.heap.size + 1, .slice none 0 0) (by simp)).1.other g1 (by simp; omega))
  have Cb := hd ((C0.out.2 (w.heap.size, .slice (some ⟨gp, 0, none⟩) n c) (by simp)).1.other g1 (by simp; omega))
  have O1 := hd (O0.out.keep_lo g1 (fun r hr => by simp at hr; omega))
  have N1 := hd (N0.out.trans (Only.grown (B := B) g1 (by omega)))
  have R1 := hd r1
  have M1 := hd (M0.out.grown g1 (.inl rfl))
  have hsz1 : w.heap.size + 2 ≤ w1.heap.size := by have := g1.size; omega
  clear hk1 hk0 r1 g1 c1 f1 c2 f2
  go_wp2_with fail
  refine (pick_any g (P + 1) 30 _ R1.out (by omega)).mono ?_
  rintro e w2 ⟨v, rfl, hv, r2, g2⟩
  have Ca := hd (Ca.out.other g2 (by omega))
  have Cb := hd (Cb.out.other g2 (by omega))
  have O2 := hd (O1.out.keep_lo g2 (fun r hr => by simp at hr; omega))
  have N2 := hd (N1.out.trans (Only.grown (B := B) g2 (by omega)))
  have R2 := hd r2
  have M2 := hd (M1.out.grown g2 (.inl rfl))
  have hsz2 : w.heap.size + 2 ≤ w2.heap.size := by have := g2.size; omega
  have hg2 : g < w2.heap.size := by omega
  clear hv r2 g2 O1 N1 R1
  obtain ⟨c1, f1, -⟩ := Ca.out
  obtain ⟨c2, f2, -⟩ := Cb.out
  by_cases h0 : v = 0
  · subst h0
    obtain ⟨g', s, hs, hg', hcs, hfs⟩ := O2.out.at_ (k := k) (by rw [Hn.out]; exact hkz)
    simp only [Option.some.injEq, Addr.mk.injEq, and_true] at hg'
    subst hg'
    have hss : s.size ≤ 12 := Sz.out s (List.mem_of_getElem? hs)
    have hsz : (s ++ (⟨#[48]⟩ : ByteArray)).size = s.size + 1 := ByteArray.size_append
    have Hss : Hid ((s ++ (⟨#[48]⟩ : ByteArray)).size ≤ 100) := hd (by omega)
    have e0 : (k : Int) < n := by omega
    have hbig : ¬ 9223372036854775807 < s.size + 1 := by omega
    have hlk : Hid (k < cs.length) := hd (by rw [Hn.out]; exact hkz)
    clear hs
    go_wp2
    go_region_law ((go_simp; go_at_call 141; refine (l1Bad_any g (P + 1 + 1) (s ++ (⟨#[48]⟩ : ByteArray)) w2.drew R2.out (by omega) Hss.out).mono ?_; rintro e w3 ⟨t, rfl, ht, r3, g3⟩; have O3 := hd (O2.out.drew.keep_lo g3 (fun r hr => by simp at hr; omega)); have Ca3 := hd (Ca.out.drew.other g3 (by omega)); have Cb3 := hd (Cb.out.drew.other g3 (by omega)); have N3 := hd ((N2.out.trans (Only.grown (B := B) (only_draws (a := w2) ⟨rfl, rfl, rfl, Nat.le_refl _, fun _ _ _ => rfl⟩ 1) (by omega))).trans (Only.grown (B := B) g3 (show B ≤ w2.heap.size by omega))); have R3 := hd r3; have M3 := hd (M2.out.drew.grown g3 (.inl rfl)); have Ht := hd ht; obtain ⟨g', o, ho, hg', hco, hfo⟩ := O3.out.at_ (k := k) hlk.out; simp only [Option.some.injEq, Addr.mk.injEq, and_true] at hg'; subst hg'; clear ht r3 g3 ho; obtain ⟨c3, f3, -⟩ := Ca3.out; obtain ⟨c4, f4, -⟩ := Cb3.out))
    all_goals
      clear c1 f1 c2 f2
      have O4 := hd (O3.out.set k t)
      have bs := (Below.refl B w3).setCell (p := ⟨gp, k, none⟩) hgp1 (.string t)
      have Ca4 := hd (Ca3.out.other (grown_set w3 ⟨gp, k, none⟩ (.string t)) (by simp; omega))
      have Cb4 := hd (Cb3.out.other (grown_set w3 ⟨gp, k, none⟩ (.string t)) (by simp; omega))
      have bs2 := (Below.refl (w.heap.size + 1) (w3.setCell ⟨gp, k, none⟩ (.string t))).setCell (p := ⟨w.heap.size + 1, 0, none⟩) (Nat.le_refl _) (.slice (some ⟨gp, 0, none⟩) n c)
      have Hlen : Hid ((cs.set k t).length = n) := hd (by rw [List.length_set]; exact Hn.out)
      have Hf : Hid (SpoiledE B g (P + 10) w (.returned (.agg #[.slice (some ⟨gp, 0, none⟩) n c])) ((w3.setCell ⟨gp, k, none⟩ (.string t)).setCell ⟨w.heap.size + 1, 0, none⟩ (.slice (some ⟨gp, 0, none⟩) n c))) := hd
        ⟨some ⟨gp, 0, none⟩, c, cs.set k t, by rw [Hlen.out], ⟨by rw [Hlen.out]; omega, (Sz.out.more (by omega)).set Ht.out⟩, O4.out.keep_hi (U := w.heap.size) (fun x hx => by simp [Value.ownBlock] at hx; omega) (grown_set _ ⟨w.heap.size + 1, 0, none⟩ _) (fun r hr => by simp at hr; omega), ((R3.out.below bs hg).below bs2 (by omega)).more (by omega), (N3.out.trans (Only.below (g := g) bs (Nat.le_refl _))).trans (Only.below (g := g) bs2 (by omega))⟩
      have Hm4 := hd ((M3.out.grown (grown_set w3 ⟨gp, k, none⟩ (.string t)) (.inr (.inl rfl))).grown (grown_set _ ⟨w.heap.size + 1, 0, none⟩ (.slice (some ⟨gp, 0, none⟩) n c)) (.inr (.inr (by simp))))
      obtain ⟨d1, e1, -⟩ := Ca4.out
      obtain ⟨d2, e2, -⟩ := Cb4.out
      clear bs bs2 c3 f3 c4 f4 hcs hfs hco hfo
      go_wp2
      exact bodyPost_ret (v := .agg #[.slice (some ⟨gp, 0, none⟩) n c]) (by simp [results, Try.results88, d1, go_sem]) rfl ⟨Hf.out, Hm4.out, atK_of (.inl rfl)⟩
  by_cases h1 : v = 1
  · subst h1
    have bs := (Below.refl w.heap.size w2).setCell (p := ⟨w.heap.size, 0, none⟩) (Nat.le_refl _) (.slice (some ⟨gp, 0, none⟩) 0 c)
    have bs2 := (Below.refl w.heap.size (w2.setCell ⟨w.heap.size, 0, none⟩ (.slice (some ⟨gp, 0, none⟩) 0 c))).setCell (p := ⟨w.heap.size + 1, 0, none⟩) (show w.heap.size ≤ w.heap.size + 1 by omega) (.slice (some ⟨gp, 0, none⟩) 0 c)
    have O3 := hd ((O2.out.cut0.keep_hi (U := w.heap.size) (fun x hx => by simp [Value.ownBlock] at hx; omega) (grown_set w2 ⟨w.heap.size, 0, none⟩ (.slice (some ⟨gp, 0, none⟩) 0 c)) (fun r hr => by simp at hr; omega)).keep_hi (U := w.heap.size) (fun x hx => by simp [Value.ownBlock] at hx; omega) (grown_set _ ⟨w.heap.size + 1, 0, none⟩ (.slice (some ⟨gp, 0, none⟩) 0 c)) (fun r hr => by simp at hr; omega))
    have Hf : Hid (SpoiledE B g (P + 10) w (.returned (.agg #[.slice (some ⟨gp, 0, none⟩) 0 c])) ((w2.setCell ⟨w.heap.size, 0, none⟩ (.slice (some ⟨gp, 0, none⟩) 0 c)).setCell ⟨w.heap.size + 1, 0, none⟩ (.slice (some ⟨gp, 0, none⟩) 0 c))) := hd
      ⟨some ⟨gp, 0, none⟩, c, [], rfl, ⟨by simp, fun s hs => by simp at hs⟩, O3.out, ((R2.out.below bs (by omega)).below bs2 (by omega)).more (by omega), (N2.out.trans (Only.below (g := g) bs hB)).trans (Only.below (g := g) bs2 hB)⟩
    have Hm4 := hd ((M2.out.grown (grown_set w2 ⟨w.heap.size, 0, none⟩ (.slice (some ⟨gp, 0, none⟩) 0 c)) (.inr (.inr (by simp)))).grown (grown_set _ ⟨w.heap.size + 1, 0, none⟩ (.slice (some ⟨gp, 0, none⟩) 0 c)) (.inr (.inr (by simp))))
    have Ca4 := hd (Ca.out.other (grown_set w2 ⟨w.heap.size, 0, none⟩ (.slice (some ⟨gp, 0, none⟩) 0 c)) (by simp))
    obtain ⟨d1, e1, -⟩ := Ca4.out
    clear bs bs2
    go_wp2
    exact bodyPost_ret (v := .agg #[.slice (some ⟨gp, 0, none⟩) 0 c]) (by simp [results, Try.results88, d1, go_sem]) rfl ⟨Hf.out, Hm4.out, atK_of (.inl rfl)⟩
  by_cases h2 : v = 2
  · subst h2
    have HR : Hid (BadR w B g (P + 1 + 1) (some ⟨gp, 0, none⟩) c cs w2) := hd ⟨⟨by rw [Hn.out]; omega, by rw [Hn.out]; omega⟩, Sz.out.more (by omega), O2.out, by rw [Hn.out]; exact Cb.out, Ca.out, R2.out, N2.out⟩
    clear O2 N2 R2
    go_wp2
    go_loopw [37] (fun _ wr => ∃ (A' : Option Addr) (c' : Nat) (ds : List ByteArray), BadR w B g (P + 1 + 1) A' c' ds wr ∧ KeepA w g gp A' wr) (fun _ wr => 8 - cellLen wr w.heap.size)
    case atStart => exact ⟨_, _, _, HR.out, M2.out, gp, rfl, .inl rfl⟩
    case round =>
      clear HR Ca Cb c1 f1 c2 f2
      obtain ⟨A', c', ds, hr, hkeep, gb, hgb, hgor⟩ := hrel
      have Mr := hd hkeep
      subst hgb
      clear hkeep
      obtain ⟨⟨d1, d8⟩, r2, r3, r4, r5, r6, r7⟩ := hr
      have Sd := hd r2
      have Own := hd r3
      have Ce := hd r4
      have Cr := hd r5
      have Rd := hd r6
      have Nn := hd r7
      have hszr : w.heap.size + 2 ≤ wr.heap.size := r5.2.2
      have Hml := hd r4.len
      clear r2 r3 r4 r5 r6 r7
      obtain ⟨c1, f1, -⟩ := Ce.out
      obtain ⟨c2, f2, -⟩ := Cr.out
      by_cases hlt : ds.length < 8
      · obtain ⟨ga, s, hs, hA', hcs, hfs⟩ := Own.out.at_ (k := 0) (by omega)
        obtain rfl : gb = ga := by injection hA' with hA'; injection hA'
        have hss : s.size ≤ 200 := Sd.out s (List.mem_of_getElem? hs)
        have e0 : (0 : Int) < ds.length := by omega
        have e00 : 0 < ds.length := by omega
        clear hs
        have hga1 : gb ≠ w.heap.size := by
          intro e; subst e; rw [c1] at hcs; simp at hcs
        have hga2 : gb ≠ w.heap.size + 1 := by
          intro e; subst e; rw [c2] at hcs; simp at hcs
        have hne1 : ¬ w.heap.size = wr.heap.size := by omega
        have Cn1 := hd (Ce.out.drew.alloc (.cells #[.string s] 9))
        have Cn2 := hd (Cr.out.drew.alloc (.cells #[.string s] 9))
        have cn1 := (Ce.out.alloc (.cells #[.string s] 9)).1
        go_wp2
        go_region_law (refine step_appL (f := Value.string) rfl _ _ 30 9 rfl B i0 (.string ByteArray.empty) 16 Try.underlying30 hi hz0 hz1 hz2 rfl (by decide) ds.length (some ⟨gb, 0, none⟩) c' ds wr.heap.size s rfl rfl rfl rfl (new_cell _ _ _) (Own.out.drew.alloc _) (by omega) (by simp; omega) ?_; intro A5 c5 w7 own7 gr7 at7 b7 hz7; have M7 := hd ((Mr.out.below ((Below.refl w.heap.size wr).drew.alloc (show w.heap.size ≤ wr.heap.size by omega) (.cells #[.string s] 9))).grown gr7 (hgor.elim (fun e => .inr (.inl e)) (fun e => .inr (.inr e)))); have At7 := hd at7; have Ce7 := hd (Cn1.out.other gr7 hga1); have Cr7 := hd (Cn2.out.other gr7 hga2); have Own7 := hd own7; have Bw7 := hd (((Below.refl B wr).drew.alloc (by simp; omega) (.cells #[.string s] 9)).trans b7); obtain ⟨c3, f3, -⟩ := Ce7.out; obtain ⟨c4, f4, -⟩ := Cr7.out; clear own7 gr7 at7 b7)
        all_goals
          clear c1 f1 c2 f2 cn1 hcs hfs
          obtain ⟨g5, s5, hs5, hA5, hcs5, hfs5⟩ := Own7.out.at_ (k := 0) (by simp)
          subst hA5
          have Hor : Hid (g5 = gp ∨ w.heap.size ≤ g5) := hd (by
            rcases At7.out with h9 | h9
            · have h8 : g5 = gb := by simpa [Value.ownBlock] using h9
              rw [h8]; exact hgor
            · have h8 : g5 = wr.heap.size + 1 := by simpa [Value.ownBlock] using h9
              exact .inr (by omega))
          have Hm8 := hd (M7.out.grown (grown_set w7 ⟨w.heap.size, 0, none⟩ (.slice (some ⟨g5, 0, none⟩) (ds.length + 1) c5)) (.inr (.inr (by simp))))
          have hg51 : g5 ≠ w.heap.size := by
            intro e; subst e; rw [c3] at hcs5; simp at hcs5
          have hg52 : g5 ≠ w.heap.size + 1 := by
            intro e; subst e; rw [c4] at hcs5; simp at hcs5
          have bs := (Below.refl w.heap.size w7).setCell (p := ⟨w.heap.size, 0, none⟩) (Nat.le_refl _) (.slice (some ⟨g5, 0, none⟩) (ds.length + 1) c5)
          have Hn2 : Hid (BadR w B g (P + 1 + 1) (some ⟨g5, 0, none⟩) c5 (ds ++ [s]) (w7.setCell ⟨w.heap.size, 0, none⟩ (.slice (some ⟨g5, 0, none⟩) (ds.length + 1) c5))) := hd
            ⟨⟨by simp, by simp; omega⟩, Sd.out.snoc hss, Own7.out.keep_off (grown_set w7 ⟨w.heap.size, 0, none⟩ (.slice (some ⟨g5, 0, none⟩) (ds.length + 1) c5)) (fun x hx => by simp [Value.ownBlock] at hx; subst hx; simpa using fun e => hg51 e.symm), by simpa using Ce7.out.put (.slice (some ⟨g5, 0, none⟩) (ds.length + 1) c5), Cr7.out.other (grown_set w7 ⟨w.heap.size, 0, none⟩ _) (by simp), (Rd.out.below Bw7.out hg).below bs (by omega), (Nn.out.trans (Only.below (g := g) Bw7.out (Nat.le_refl _))).trans (Only.below (g := g) bs hB)⟩
          have Hml2 := hd Hn2.out.2.2.2.1.len
          clear bs hs5 hcs5 hfs5 c3 f3 c4 f4
          go_wp2
          go_roundw
          case rel => exact ⟨_, _, _, Hn2.out, Hm8.out, g5, rfl, Hor.out⟩
          case measure => rw [Hml.out, Hml2.out]; simp; omega
      · obtain ⟨ga, s, hs, hA', hcs, hfs⟩ := Own.out.at_ (k := 0) (by omega)
        obtain rfl : gb = ga := by injection hA' with hA'; injection hA'
        have Hm4 := hd (Mr.out.grown (grown_set wr ⟨w.heap.size + 1, 0, none⟩ (.slice (some ⟨gb, 0, none⟩) ds.length c')) (.inr (.inr (by simp))))
        have hga2 : gb ≠ w.heap.size + 1 := by
          intro e; subst e; rw [c2] at hcs; simp at hcs
        have bs := (Below.refl w.heap.size wr).setCell (p := ⟨w.heap.size + 1, 0, none⟩) (show w.heap.size ≤ w.heap.size + 1 by omega) (.slice (some ⟨gb, 0, none⟩) ds.length c')
        have Hf : Hid (SpoiledE B g (P + 10) w (.returned (.agg #[.slice (some ⟨gb, 0, none⟩) ds.length c'])) (wr.setCell ⟨w.heap.size + 1, 0, none⟩ (.slice (some ⟨gb, 0, none⟩) ds.length c'))) := hd
          ⟨_, _, ds, rfl, ⟨d8, Sd.out⟩, Own.out.keep_off (grown_set wr ⟨w.heap.size + 1, 0, none⟩ (.slice (some ⟨gb, 0, none⟩) ds.length c')) (fun x hx => by simp [Value.ownBlock] at hx; subst hx; simpa using fun e => hga2 e.symm), (Rd.out.below bs (by omega)).more (by omega), Nn.out.trans (Only.below (g := g) bs hB)⟩
        clear bs hs hcs hfs
        go_wp2
        exact bodyPost_ret (v := .agg #[.slice (some ⟨gb, 0, none⟩) ds.length c']) (by simp [results, Try.results88, c2, go_sem]) rfl ⟨Hf.out, Hm4.out, atK_of hgor⟩
  · have e0 : (v == 0) = false := by simp [h0]
    have e1 : (v == 1) = false := by simp [h1]
    have e2 : (v == 2) = false := by simp [h2]
    have bs := (Below.refl (w.heap.size + 1) w2).setCell (p := ⟨w.heap.size + 1, 0, none⟩) (Nat.le_refl _) (.slice (some ⟨gp, 0, none⟩) n c)
    have Hf : Hid (SpoiledE B g (P + 10) w (.returned (.agg #[.slice (some ⟨gp, 0, none⟩) n c])) (w2.setCell ⟨w.heap.size + 1, 0, none⟩ (.slice (some ⟨gp, 0, none⟩) n c))) := hd
      ⟨some ⟨gp, 0, none⟩, c, cs, by rw [Hn.out], ⟨by rw [Hn.out]; omega, Sz.out.more (by omega)⟩, O2.out.keep_hi (U := w.heap.size) (fun x hx => by simp [Value.ownBlock] at hx; omega) (grown_set _ ⟨w.heap.size + 1, 0, none⟩ _) (fun r hr => by simp at hr; omega), (R2.out.below bs (by omega)).more (by omega), N2.out.trans (Only.below (g := g) bs (by omega))⟩
    have Hm4 := hd (M2.out.grown (grown_set w2 ⟨w.heap.size + 1, 0, none⟩ (.slice (some ⟨gp, 0, none⟩) n c)) (.inr (.inr (by simp))))
    clear h0 h1 h2 bs
    go_wp2
    exact bodyPost_ret (v := .agg #[.slice (some ⟨gp, 0, none⟩) n c]) (by simp [results, Try.results88, c1, go_sem]) rfl ⟨Hf.out, Hm4.out, atK_of (.inl rfl)⟩

end Go.Proofs.Ytkmblobfamhoiaa
