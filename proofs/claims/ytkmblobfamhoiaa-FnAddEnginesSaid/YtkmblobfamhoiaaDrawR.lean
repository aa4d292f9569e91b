/- The contract of the draw of two engines. -/
import Derived.Test.YtkmblobfamhoiaaGrI
import Derived.Test.YtkmblobfamhoiaaDrawN
import Derived.Test.YtkmblobfamhoiaaGrG
import Derived.Deep.RegionHeld3
import Derived.Sort.AtCall
namespace Go.Proofs.Ytkmblobfamhoiaa
open Go.RowKit
set_option maxRecDepth 4000

/-- What a law is given by a draw of two engines. -/
def DrewEE (w : World) (e : Ending) (w' : World) : Prop :=
  ∃ A c cs A' c' ds, e = .returned (.tuple #[.agg #[.slice A cs.length c], .agg #[.slice A' ds.length c']]) ∧ (cs.length ≤ 8 ∧ Sizes cs 200) ∧ (ds.length ≤ 8 ∧ Sizes ds 200) ∧ OwnS 9 w.heap.size w' A c cs ∧ OwnS 9 w.heap.size w' A' c' ds ∧ Below w.heap.size w w'

theorem OwnG.same {α : Type} {f : α → Value} {E : TypeId} {B g c : Nat} {w w' : World} {xs : List α} (h : OwnG f E B w (some ⟨g, 0, none⟩) c xs) (he : w'.heap[g]? = w.heap[g]?) : OwnG f E B w' (some ⟨g, 0, none⟩) c xs := by
  refine ⟨h.1, h.2.1, ?_⟩
  rcases h.2.2 with ⟨h1, h2⟩ | ⟨g', cap, cur, hv, h3, h4, h5⟩
  · simp at h1
  · refine .inr ⟨g', cap, cur, hv, h3, ?_, h5⟩
    simp only [Value.slice.injEq, Option.some.injEq, Addr.mk.injEq, and_true] at hv
    obtain ⟨rfl, -⟩ := hv
    rw [he]; exact h4
theorem OwnG.off_row {α : Type} {f : α → Value} {E : TypeId} {B g c r : Nat} {w w' : World} {xs : List α} (h : OwnG f E B w (some ⟨g, 0, none⟩) c xs) (gr : w.grownBy w' (some r)) (hne : r ≠ g) : OwnG f E B w' (some ⟨g, 0, none⟩) c xs :=
  h.same (gr.block g (h.lt rfl).2 (by simpa using fun e => hne e.symm))
theorem OwnG.keepK {α : Type} {f : α → Value} {E : TypeId} {B g gp r c : Nat} {w w' : World} {xs : List α} (h : OwnG f E B w (some ⟨g, 0, none⟩) c xs) (k : Keep w r gp w') (h1 : g ≠ r) (h2 : g ≠ gp) : OwnG f E B w' (some ⟨g, 0, none⟩) c xs :=
  h.same (k.2 g (h.lt rfl).2 h1 h2)
theorem Cl.keepK {w w' : World} {g gp r : Nat} {v : Value} (h : Cl w g v) (k : Keep w r gp w') (h1 : g ≠ r) (h2 : g ≠ gp) : Cl w' g v := by
  have hb := k.2 g h.2.2 h1 h2
  refine ⟨?_, ?_, Nat.lt_of_lt_of_le h.2.2 k.1⟩
  · rw [World.cell?_of_block (w := w) hb]; exact h.1
  · rw [World.frozen?_of_block (w := w) hb]; exact h.2.1
theorem below_onlyB {B C : Nat} {w a b : World} {g : Nat} (h : Below C w a) (k : Only B g a b) (h1 : C ≤ g) (h2 : C ≤ B) : Below C w b :=
  h.trans ⟨k.os, k.tape, k.output, k.size, fun i hi => k.block i (by omega) (by omega)⟩
theorem cellNe {w : World} {g : Nat} {p : Addr} {v x : Value} (h : w.cell? p = some x) (hne : p.block ≠ g) : (w.setCell ⟨g, 0, none⟩ v).cell? p = some x := by
  rw [World.cell?_setCell_other (h := fun e => hne (by rw [← e]))]; exact h
theorem Rdr.drew1 {w : World} {g : Nat} {P : Int} (h : Rdr w g P) : Rdr w.drew g P := h
theorem OwnG.keepA {α : Type} {f : α → Value} {E : TypeId} {B gp r c : Nat} {A : Option Addr} {w w' : World} {xs : List α} (h : OwnG f E B w A c xs) (k : Keep w r gp w') (hr : r < B) (ho : ∀ a, A = some a → a.block ≠ gp) : OwnG f E B w' A c xs := by
  rcases h.2.2 with ⟨h1, h2⟩ | ⟨g, cap, cur, hv, h3, _⟩
  · exact ⟨h.1, h.2.1, .inl ⟨h1, h2⟩⟩
  · simp only [Value.slice.injEq] at hv
    obtain ⟨rfl, -, -⟩ := hv
    exact h.keepK k (by omega) (ho _ rfl)
theorem Sizes.setS {cs : List ByteArray} {m k : Nat} {s : ByteArray} (h : Sizes cs m) (hs : s.size ≤ m) : Sizes (cs.set k s) m := fun t ht => by
  rcases List.mem_or_eq_of_mem_set ht with h1 | rfl
  · exact h t h1
  · exact hs

/-- What the loop of the draw keeps. -/
def DaR (w : World) (B g gA gB gE gF n c2 c3 : Nat) (cs : List ByteArray) (i : Value) (wr : World) : Prop :=
  ∃ (k : Nat) (ds : List ByteArray), k ≤ n ∧ i = .int .i64 k ∧ ds.length = n ∧ Sizes ds 12 ∧ OwnS 9 B wr (some ⟨gA, 0, none⟩) c2 cs ∧ OwnS 9 B wr (some ⟨gB, 0, none⟩) c3 ds ∧ Rdr wr g (400 + 40 * k) ∧
    Cl wr w.heap.size (.slice none 0 0) ∧ Cl wr (w.heap.size + 1) (.slice none 0 0) ∧ Cl wr gE (.slice (some ⟨gA, 0, none⟩) n c2) ∧ Cl wr gF (.slice (some ⟨gB, 0, none⟩) n c3) ∧ Below w.heap.size w wr

set_option maxHeartbeats 6400000 in
theorem DrawAddEngines_any (A : Option Addr) (c : Nat) (zs : List Int) (w : World) (h : SR w A (zs.map (Value.int .u8))) (hcap : zs.length ≤ c) (hx : ∀ x ∈ zs, 0 ≤ x ∧ x ≤ 255) :
    Calls Try.prog 31 #[.slice A zs.length c] w fun e w' => DrewEE w e w' := by
  have C0 := hd (Cs.two w (.slice none 0 0) (.slice none 0 0) 36 36)
  have H := hd (h.below C0.out.1)
  have Hx := hd hx
  have hsz0 : ((w.alloc (.cells #[.slice none 0 0] 36)).alloc (.cells #[.slice none 0 0] 36)).heap.size = w.heap.size + 2 := by simp
  clear h hx
  go_enter Try.func31, Try.ntmps31
  go_wp2_with fail
  refine (l9Open_any A c zs _ H.out hcap Hx.out).mono ?_
  rintro e w1 ⟨g, rfl, hg, rd, b1⟩
  rw [hsz0] at hg
  have Rd := hd rd
  have hgw1 : g < w1.heap.size := rd.lt
  have Ca := hd ((C0.out.2 (w.heap.size, .slice none 0 0) (by simp)).1.below b1)
  have Cb := hd ((C0.out.2 (w.heap.size + 1, .slice none 0 0) (by simp)).1.below b1)
  have B1 := hd (C0.out.1.trans (b1.mono C0.out.1.size))
  have hsz1 : w.heap.size + 2 ≤ w1.heap.size := by have := b1.size; rw [hsz0] at this; exact this
  obtain ⟨B, hB⟩ : ∃ B, Hid (w1.heap.size = B) := ⟨_, hd rfl⟩
  have hgB : g < B := by rw [← hB.out]; exact hgw1
  have hwB : w.heap.size + 2 ≤ B := by rw [← hB.out]; exact hsz1
  clear rd b1 hsz0 C0 H
  go_wp2_with fail
  refine (l3Some_any g 0 _ Rd.out (by omega)).mono ?_
  rintro e w2 ⟨A2, c2, cs, rfl, ⟨hn1, hn7, hcs⟩, own2, rd2, gr2⟩
  obtain ⟨gA, rfl, hgA1, hgA2⟩ := own2.addr (by omega)
  rw [hB.out] at own2 hgA1
  have hs1 := gr2.size
  have Ca := hd ((Ca.out.other gr2 (by omega)).alloc (.cells #[.slice (some ⟨gA, 0, none⟩) cs.length c2] 36))
  have Cb := hd ((Cb.out.other gr2 (by omega)).alloc (.cells #[.slice (some ⟨gA, 0, none⟩) cs.length c2] 36))
  have Ce := hd (Cl.new w2 (.slice (some ⟨gA, 0, none⟩) cs.length c2) 36)
  have LA := hd (own2.alloc (.cells #[.slice (some ⟨gA, 0, none⟩) cs.length c2] 36))
  have Bn := hd ((Below.refl w2.heap.size w2).alloc (Nat.le_refl _) (.cells #[.slice (some ⟨gA, 0, none⟩) cs.length c2] 36))
  have Rd := hd (rd2.below Bn.out rd2.lt)
  have Bw := hd ((grown_new B1.out (show w.heap.size ≤ g by omega) gr2).alloc (by rw [hB.out] at hs1; omega) (.cells #[.slice (some ⟨gA, 0, none⟩) cs.length c2] 36))
  have Hcs := hd hcs
  obtain ⟨gE, hgE⟩ : ∃ gE, Hid (w2.heap.size = gE) := ⟨_, hd rfl⟩
  have hszE : Hid ((w2.alloc (.cells #[.slice (some ⟨gA, 0, none⟩) cs.length c2] 36)).heap.size = gE + 1) := hd (by rw [← hgE.out]; simp)
  have hgEA : gA < gE := by rw [← hgE.out]; exact hgA2
  have hgEg : g < gE := by rw [← hgE.out]; exact rd2.lt
  have hBE : B ≤ gE := by rw [← hgE.out, ← hB.out]; exact hs1
  have Ceq := hd Ce.out
  rw [hgE.out] at Ceq
  clear own2 rd2 gr2 hcs hs1 B1 hgA2
  obtain ⟨e1, e2, -⟩ := Ce.out
  go_wp2_with fail
  refine (l3Copy_any (some ⟨gA, 0, none⟩) c2 _ cs _ LA.out.sg rfl hn1 (by omega)).mono ?_
  rintro e w3 ⟨A3, c3, rfl, own3, b3⟩
  obtain ⟨gB, rfl, hgB1, hgB2⟩ := own3.addr (by omega)
  rw [hszE.out] at own3 hgB1
  clear e1 e2
  have hs3 := b3.size
  rw [hszE.out] at hs3
  have Ca := hd ((Ca.out.below b3).alloc (.cells #[.slice (some ⟨gB, 0, none⟩) cs.length c3] 36))
  have Cb := hd ((Cb.out.below b3).alloc (.cells #[.slice (some ⟨gB, 0, none⟩) cs.length c3] 36))
  have Ce := hd ((Ceq.out.below b3).alloc (.cells #[.slice (some ⟨gB, 0, none⟩) cs.length c3] 36))
  have Cf := hd (Cl.new w3 (.slice (some ⟨gB, 0, none⟩) cs.length c3) 36)
  have LA := hd ((LA.out.below b3).alloc (.cells #[.slice (some ⟨gB, 0, none⟩) cs.length c3] 36))
  have LB := hd ((own3.low (show B ≤ gE + 1 by omega)).alloc (.cells #[.slice (some ⟨gB, 0, none⟩) cs.length c3] 36))
  have Rd := hd (((Rd.out.below b3 (by rw [hszE.out]; omega))).below ((Below.refl w3.heap.size w3).alloc (Nat.le_refl _) (.cells #[.slice (some ⟨gB, 0, none⟩) cs.length c3] 36)) (by omega))
  have Bw := hd ((Bw.out.trans (b3.mono Bw.out.size)).alloc (by omega) (.cells #[.slice (some ⟨gB, 0, none⟩) cs.length c3] 36))
  obtain ⟨gF, hgF⟩ : ∃ gF, Hid (w3.heap.size = gF) := ⟨_, hd rfl⟩
  have hgF1 : gE + 1 ≤ gF := by rw [← hgF.out]; exact hs3
  have hgF2 : gB < gF := by rw [← hgF.out]; exact hgB2
  have Cfq := hd Cf.out
  rw [hgF.out] at Cfq
  obtain ⟨wk, hwk⟩ : ∃ x, x = w3.alloc (.cells #[.slice (some ⟨gB, 0, none⟩) cs.length c3] 36) := ⟨_, rfl⟩
  have Cak := hd Ca.out
  have Cbk := hd Cb.out
  have Cek := hd Ce.out
  have LAk := hd LA.out
  have LBk := hd LB.out
  have Rdk := hd Rd.out
  have Bwk := hd Bw.out
  have Cfk := hd Cfq.out
  rw [← hwk] at Cak
  rw [← hwk] at Cbk
  rw [← hwk] at Cek
  rw [← hwk] at LAk
  rw [← hwk] at LBk
  rw [← hwk] at Rdk
  rw [← hwk] at Bwk
  rw [← hwk] at Cfk
  have Hwk := hd hwk
  rw [hgE.out]
  clear hwk own3 b3 hs3 hgB2 Bn Cf Cfq Ce Ceq Ca Cb LA LB Rd Bw
  go_wp2
  rw [← Hwk.out]
  rw [hgF.out]
  go_loopw [7] (fun i wr => DaR w B g gA gB gE gF cs.length c2 c3 cs i wr) (fun i _ => cs.length - (intOf i).toNat)
  case atStart => exact ⟨0, cs, by omega, rfl, rfl, Hcs.out, LAk.out, LBk.out, Rdk.out, Cak.out, Cbk.out, Cek.out, Cfk.out, Bwk.out⟩
  case round =>
    clear Cak Cbk Cek Cfk LAk LBk Rdk Bwk
    obtain ⟨k, ds, hk, rfl, hdl, hds, la, lb, rd, ca, cb, ce, cf, bw⟩ := hrel
    have Hdl := hd hdl
    have Hds := hd hds
    have LA := hd la
    have LB := hd lb
    have Rd := hd rd
    have Ca := hd ca
    have Cb := hd cb
    have Ce := hd ce
    have Cf := hd cf
    have Bw := hd bw
    clear hdl hds la lb rd ca cb ce cf bw
    obtain ⟨e1, e2, -⟩ := Ce.out
    obtain ⟨f1, f2, -⟩ := Cf.out
    have hgA0 : gA < wr.heap.size := (LA.out.lt rfl).2
    have hgB0 : gB < wr.heap.size := (LB.out.lt rfl).2
    by_cases hlt : k < cs.length
    · have i1 : (k : Int) < cs.length := by omega
      have i2 : (0 : Int) ≤ k := by omega
      have i3 : (0 : Int) < cs.length := by omega
      have i4 : 0 < cs.length := by omega
      obtain ⟨g', s0, hs0, hg', hc0, -⟩ := LA.out.at_ (k := 0) (by omega)
      simp only [Option.some.injEq, Addr.mk.injEq, and_true] at hg'
      subst hg'
      have hss : s0.size ≤ 12 := Hcs.out s0 (List.mem_of_getElem? hs0)
      clear hs0
      go_wp2
      go_region_law ((go_simp; go_at_call 86; refine (l1Some_any g s0.size _ _ Rd.out.drew1 (by omega) hss).mono ?_; rintro e w4 ⟨s4, rfl, hs4, r4, g4⟩; have Ca := hd (Ca.out.drew.other g4 (by omega)); have Cb := hd (Cb.out.drew.other g4 (by omega)); have Ce := hd (Ce.out.drew.other g4 (by omega)); have Cf := hd (Cf.out.drew.other g4 (by omega)); have LA := hd (LA.out.drew.off_row g4 (by omega)); have LB := hd (LB.out.drew.off_row g4 (by omega)); have Bw := hd (Bw.out.drew.grown g4 Bw.out.size (fun r hr => by simp at hr; omega)); have Rd := hd r4; have Hs4 := hd hs4; clear e1 e2 f1 f2 hc0 hs4 r4 g4; obtain ⟨e1, e2, -⟩ := Ce.out; obtain ⟨f1, f2, -⟩ := Cf.out; obtain ⟨g', t0, ht0, hg', hc0, -⟩ := LA.out.at_ (k := 0) (by omega); simp only [Option.some.injEq, Addr.mk.injEq, and_true] at hg'; subst hg'; clear ht0; obtain ⟨g', u0, hu0, hg', hcb, hfb⟩ := LB.out.at_ (k := k) (by rw [Hdl.out]; exact hlt); simp only [Option.some.injEq, Addr.mk.injEq, and_true] at hg'; subst hg'; clear hu0))
      all_goals
        have gs := grown_set w4 ⟨gB, k, none⟩ (.string s4)
        have Ca := hd (Ca.out.other gs (by simp; omega))
        have Cb := hd (Cb.out.other gs (by simp; omega))
        have Ce := hd (Ce.out.other gs (by simp; omega))
        have Cf := hd (Cf.out.other gs (by simp; omega))
        have LA := hd (LA.out.off_row gs (by simp; omega))
        have LB := hd (LB.out.set k s4)
        have Bw := hd (Bw.out.setCell (p := ⟨gB, k, none⟩) (show w.heap.size ≤ gB by omega) (.string s4))
        have Rd := hd ((Rd.out.below ((Below.refl gB w4).setCell (p := ⟨gB, k, none⟩) (Nat.le_refl _) (.string s4)) (by omega)).more (show (400 + 40 * (k : Int)) + 40 ≤ 400 + 40 * ((k + 1 : Nat) : Int) by omega))
        have Hds2 := hd (Hds.out.setS (k := k) (s := s4) (by rw [Hs4.out]; exact hss))
        have Hdl2 : Hid ((ds.set k s4).length = cs.length) := hd (by rw [List.length_set]; exact Hdl.out)
        clear gs
        go_wp2
        go_roundw
        case rel => exact ⟨k + 1, ds.set k s4, by omega, by go_num, Hdl2.out, Hds2.out, LA.out, LB.out, Rd.out, Ca.out, Cb.out, Ce.out, Cf.out, Bw.out⟩
        case measure => simp [intOf] <;> omega
    · have i1 : ¬ (k : Int) < cs.length := by omega
      go_wp2_with fail
      refine (pick_any g _ 8 _ Rd.out (by omega)).mono ?_
      rintro e w5 ⟨v, rfl, -, r5, g5⟩
      clear e1 e2 f1 f2
      have Ca := hd (Ca.out.other g5 (by omega))
      have Cb := hd (Cb.out.other g5 (by omega))
      have Ce := hd (Ce.out.other g5 (by omega))
      have Cf := hd (Cf.out.other g5 (by omega))
      have LA := hd (LA.out.off_row g5 (by omega))
      have LB := hd (LB.out.off_row g5 (by omega))
      have Bw := hd (Bw.out.grown g5 Bw.out.size (fun r hr => by simp at hr; omega))
      have Rd := hd (r5.more (show 400 + 40 * (k : Int) + 1 ≤ 701 by omega))
      have hs5 := g5.size
      clear r5 g5
      obtain ⟨e1, e2, -⟩ := Ce.out
      obtain ⟨f1, f2, -⟩ := Cf.out
      have hgA0 : gA < w5.heap.size := (LA.out.lt rfl).2
      have hgB0 : gB < w5.heap.size := (LB.out.lt rfl).2
      have hE0 := Ce.out.2.2
      have hF0 := Cf.out.2.2
      by_cases h0 : v = 0
      · subst h0
        go_wp2_with fail
        refine (l3Some_any g 701 _ Rd.out (by omega)).mono ?_
        rintro e w6 ⟨A6, c6, xs, rfl, ⟨hm1, hm7, hxs⟩, own6, rd6, gr6⟩
        obtain ⟨gX, rfl, hgX1, hgX2⟩ := own6.addr (by omega)
        clear e1 e2 f1 f2
        have Ca := hd (Ca.out.other gr6 (by omega))
        have Cb := hd (Cb.out.other gr6 (by omega))
        have Ce := hd (Ce.out.other gr6 (by omega))
        have Cf := hd (Cf.out.other gr6 (by omega))
        have LA := hd (LA.out.off_row gr6 (by omega))
        have Bw := hd (Bw.out.grown gr6 Bw.out.size (fun r hr => by simp at hr; omega))
        have LB := hd (own6.low (show B ≤ w5.heap.size by omega))
        have Rd := hd rd6
        have Hxs := hd hxs
        have hs6 := gr6.size
        clear own6 rd6 gr6 hxs
        obtain ⟨e1, e2, -⟩ := Ce.out
        obtain ⟨f1, f2, -⟩ := Cf.out
        have gs := grown_set w6 ⟨gF, 0, none⟩ (.slice (some ⟨gX, 0, none⟩) xs.length c6)
        have Ca := hd (Ca.out.other gs (by simp; omega))
        have Cb := hd (Cb.out.other gs (by simp; omega))
        have Ce := hd (Ce.out.other gs (by simp; omega))
        have Cf := hd (Cf.out.put (.slice (some ⟨gX, 0, none⟩) xs.length c6))
        have LA := hd (LA.out.off_row gs (by simp; omega))
        have LB := hd (LB.out.off_row gs (by simp; omega))
        have Bw := hd (Bw.out.setCell (p := ⟨gF, 0, none⟩) (show w.heap.size ≤ gF by omega) (.slice (some ⟨gX, 0, none⟩) xs.length c6))
        have Rd := hd (Rd.out.below ((Below.refl gF w6).setCell (p := ⟨gF, 0, none⟩) (Nat.le_refl _) (.slice (some ⟨gX, 0, none⟩) xs.length c6)) (by omega))
        have hs9 : w6.heap.size ≤ (w6.setCell ⟨gF, 0, none⟩ (.slice (some ⟨gX, 0, none⟩) xs.length c6)).heap.size := gs.size
        obtain ⟨w9, hw9⟩ : ∃ x, x = w6.setCell ⟨gF, 0, none⟩ (.slice (some ⟨gX, 0, none⟩) xs.length c6) := ⟨_, rfl⟩
        clear gs
        have Cau := hd Ca.out
        have Cbu := hd Cb.out
        have Ceu := hd Ce.out
        have Cfu := hd Cf.out
        have LAu := hd LA.out
        have LBu := hd LB.out
        have Bwu := hd Bw.out
        have Rdu := hd Rd.out
        obtain ⟨p1, p2, -⟩ := Ceu.out
        obtain ⟨p3, p4, -⟩ := Cfu.out
        have hBw : B ≤ (w6.setCell ⟨gF, 0, none⟩ (.slice (some ⟨gX, 0, none⟩) xs.length c6)).heap.size := by omega
        have hgBw : gX < (w6.setCell ⟨gF, 0, none⟩ (.slice (some ⟨gX, 0, none⟩) xs.length c6)).heap.size := by omega
        go_wp2
        go_region_held3 (fun w' => w'.cell? ⟨gE, 0, none⟩ = some (.slice (some ⟨gA, 0, none⟩) cs.length c2) ∧ w'.cell? ⟨gF, 0, none⟩ = some (.slice (some ⟨gX, 0, none⟩) xs.length c6)) (first | exact ⟨e1, f1⟩ | exact ⟨e1, f1⟩ | exact ⟨cellNe e1 (show gE ≠ w.heap.size by omega), cellNe f1 (show gF ≠ w.heap.size by omega)⟩ | exact ⟨cellNe (cellNe e1 (show gE ≠ w.heap.size by omega)) (show gE ≠ w.heap.size + 1 by omega), cellNe (cellNe f1 (show gF ≠ w.heap.size by omega)) (show gF ≠ w.heap.size + 1 by omega)⟩ | go_keep) (first | (go_simp; go_at_call_has 88 gA; refine (l3BadK_any B g gA _ c2 cs.length cs _ rfl Rd.out.drew1 (by omega) LA.out.drew hgB hBw hn1 hn7 Hcs.out).mono ?_; rintro e w7 ⟨⟨A7, c7, ys, rfl, hy7, own7, r7, nn7⟩, kp7, at7⟩; have Ca := hd (Ca.out.drew.keepK kp7 (by omega) (by omega)); have Cb := hd (Cb.out.drew.keepK kp7 (by omega) (by omega)); have Ce := hd (Ce.out.drew.keepK kp7 (by omega) (by omega)); have Cf := hd (Cf.out.drew.keepK kp7 (by omega) (by omega)); have LB := hd (LB.out.drew.keepK kp7 (by omega) (by omega)); have LY := hd own7; have Hy7 := hd hy7; have At7 := hd (show ∀ a, A7 = some a → a.block = gA ∨ (w6.setCell ⟨gF, 0, none⟩ (.slice (some ⟨gX, 0, none⟩) xs.length c6)).heap.size ≤ a.block from at7 A7 ys.length c7 rfl); have hBw7 : B ≤ w7.heap.size := Nat.le_trans hBw kp7.1; have Bw := hd (below_onlyB Bw.out.drew nn7 (by omega) (by omega)); have Rd := hd r7; clear e1 e2 f1 f2 own7 hy7 r7 kp7 at7 nn7; obtain ⟨e1, e2, -⟩ := Ce.out; obtain ⟨f1, f2, -⟩ := Cf.out) | (go_simp; go_at_call_has 88 gX; refine (l3BadK_any B g gX _ c6 xs.length xs _ rfl Rd.out (by omega) LB.out hgB hBw7 hm1 hm7 Hxs.out).mono ?_; rintro e w8 ⟨⟨A8, c8, us, rfl, hy8, own8, r8, nn8⟩, kp8, -⟩; have Ca := hd (Ca.out.keepK kp8 (by omega) (by omega)); have Cb := hd (Cb.out.keepK kp8 (by omega) (by omega)); have Ce := hd (Ce.out.keepK kp8 (by omega) (by omega)); have Cf := hd (Cf.out.keepK kp8 (by omega) (by omega)); have LY := hd (LY.out.keepA kp8 hgB (fun a ha => by rcases At7.out a ha with h9 | h9 <;> omega)); have LU := hd own8; have Hy8 := hd hy8; have Bw := hd (below_onlyB Bw.out nn8 (by omega) (by omega)); clear e1 e2 f1 f2 own8 hy8 r8 kp8 nn8 Rd; obtain ⟨e1, e2, -⟩ := Ce.out; obtain ⟨f1, f2, -⟩ := Cf.out; obtain ⟨c1, c2_, -⟩ := Ca.out; obtain ⟨d1, d2_, -⟩ := Cb.out))
        all_goals
          have gs1 := grown_set w8 ⟨w.heap.size, 0, none⟩ (.slice A7 ys.length c7)
          have gs2 := grown_set (w8.setCell ⟨w.heap.size, 0, none⟩ (.slice A7 ys.length c7)) ⟨w.heap.size + 1, 0, none⟩ (.slice A8 us.length c8)
          have LY2 := hd ((LY.out.keep_lo gs1 (fun r hr => by simp at hr; omega)).keep_lo gs2 (fun r hr => by simp at hr; omega))
          have LU2 := hd ((LU.out.keep_lo gs1 (fun r hr => by simp at hr; omega)).keep_lo gs2 (fun r hr => by simp at hr; omega))
          have Bf := hd ((Bw.out.setCell (p := ⟨w.heap.size, 0, none⟩) (Nat.le_refl _) (.slice A7 ys.length c7)).setCell (p := ⟨w.heap.size + 1, 0, none⟩) (show w.heap.size ≤ w.heap.size + 1 by omega) (.slice A8 us.length c8))
          have Hf := hd (show DrewEE w (.returned (.tuple #[.agg #[.slice A7 ys.length c7], .agg #[.slice A8 us.length c8]])) _ from ⟨A7, c7, ys, A8, c8, us, rfl, Hy7.out, Hy8.out, LY2.out.low (by omega), LU2.out.low (by omega), Bf.out⟩)
          clear gs1 gs2
          go_wp2
          exact bodyPost_ret (v := .tuple #[.agg #[.slice A7 ys.length c7], .agg #[.slice A8 us.length c8]]) (by simp [results, Try.results31, c1, d1, go_sem]) rfl Hf.out
      · have h00 : (v == 0) = false := by simp [h0]
        clear h0
        have hBw : B ≤ w5.heap.size := by omega
        have hgBw : gB < w5.heap.size := by omega
        go_wp2
        go_region_held3 (fun w' => w'.cell? ⟨gE, 0, none⟩ = some (.slice (some ⟨gA, 0, none⟩) cs.length c2) ∧ w'.cell? ⟨gF, 0, none⟩ = some (.slice (some ⟨gB, 0, none⟩) cs.length c3)) (first | exact ⟨e1, f1⟩ | exact ⟨e1, f1⟩ | exact ⟨cellNe e1 (show gE ≠ w.heap.size by omega), cellNe f1 (show gF ≠ w.heap.size by omega)⟩ | exact ⟨cellNe (cellNe e1 (show gE ≠ w.heap.size by omega)) (show gE ≠ w.heap.size + 1 by omega), cellNe (cellNe f1 (show gF ≠ w.heap.size by omega)) (show gF ≠ w.heap.size + 1 by omega)⟩ | go_keep) (first | (go_simp; go_at_call_has 88 gA; refine (l3BadK_any B g gA _ c2 cs.length cs _ rfl Rd.out.drew1 (by omega) LA.out.drew hgB hBw hn1 hn7 Hcs.out).mono ?_; rintro e w7 ⟨⟨A7, c7, ys, rfl, hy7, own7, r7, nn7⟩, kp7, at7⟩; have Ca := hd (Ca.out.drew.keepK kp7 (by omega) (by omega)); have Cb := hd (Cb.out.drew.keepK kp7 (by omega) (by omega)); have Ce := hd (Ce.out.drew.keepK kp7 (by omega) (by omega)); have Cf := hd (Cf.out.drew.keepK kp7 (by omega) (by omega)); have LB := hd (LB.out.drew.keepK kp7 (by omega) (by omega)); have LY := hd own7; have Hy7 := hd hy7; have At7 := hd (show ∀ a, A7 = some a → a.block = gA ∨ w5.heap.size ≤ a.block from at7 A7 ys.length c7 rfl); have hBw7 : B ≤ w7.heap.size := Nat.le_trans hBw kp7.1; have Bw := hd (below_onlyB Bw.out.drew nn7 (by omega) (by omega)); have Rd := hd r7; clear e1 e2 f1 f2 own7 hy7 r7 kp7 at7 nn7; obtain ⟨e1, e2, -⟩ := Ce.out; obtain ⟨f1, f2, -⟩ := Cf.out) | (go_simp; go_at_call_has 88 gB; refine (l3BadK_any B g gB _ c3 cs.length ds _ Hdl.out Rd.out (by omega) LB.out hgB hBw7 hn1 hn7 Hds.out).mono ?_; rintro e w8 ⟨⟨A8, c8, us, rfl, hy8, own8, r8, nn8⟩, kp8, -⟩; have Ca := hd (Ca.out.keepK kp8 (by omega) (by omega)); have Cb := hd (Cb.out.keepK kp8 (by omega) (by omega)); have Ce := hd (Ce.out.keepK kp8 (by omega) (by omega)); have Cf := hd (Cf.out.keepK kp8 (by omega) (by omega)); have LY := hd (LY.out.keepA kp8 hgB (fun a ha => by rcases At7.out a ha with h9 | h9 <;> omega)); have LU := hd own8; have Hy8 := hd hy8; have Bw := hd (below_onlyB Bw.out nn8 (by omega) (by omega)); clear e1 e2 f1 f2 own8 hy8 r8 kp8 nn8 Rd; obtain ⟨e1, e2, -⟩ := Ce.out; obtain ⟨f1, f2, -⟩ := Cf.out; obtain ⟨c1, c2_, -⟩ := Ca.out; obtain ⟨d1, d2_, -⟩ := Cb.out))
        all_goals
          have gs1 := grown_set w8 ⟨w.heap.size, 0, none⟩ (.slice A7 ys.length c7)
          have gs2 := grown_set (w8.setCell ⟨w.heap.size, 0, none⟩ (.slice A7 ys.length c7)) ⟨w.heap.size + 1, 0, none⟩ (.slice A8 us.length c8)
          have LY2 := hd ((LY.out.keep_lo gs1 (fun r hr => by simp at hr; omega)).keep_lo gs2 (fun r hr => by simp at hr; omega))
          have LU2 := hd ((LU.out.keep_lo gs1 (fun r hr => by simp at hr; omega)).keep_lo gs2 (fun r hr => by simp at hr; omega))
          have Bf := hd ((Bw.out.setCell (p := ⟨w.heap.size, 0, none⟩) (Nat.le_refl _) (.slice A7 ys.length c7)).setCell (p := ⟨w.heap.size + 1, 0, none⟩) (show w.heap.size ≤ w.heap.size + 1 by omega) (.slice A8 us.length c8))
          have Hf := hd (show DrewEE w (.returned (.tuple #[.agg #[.slice A7 ys.length c7], .agg #[.slice A8 us.length c8]])) _ from ⟨A7, c7, ys, A8, c8, us, rfl, Hy7.out, Hy8.out, LY2.out.low (by omega), LU2.out.low (by omega), Bf.out⟩)
          clear gs1 gs2
          go_wp2
          exact bodyPost_ret (v := .tuple #[.agg #[.slice A7 ys.length c7], .agg #[.slice A8 us.length c8]]) (by simp [results, Try.results31, c1, d1, go_sem]) rfl Hf.out

end Go.Proofs.Ytkmblobfamhoiaa
