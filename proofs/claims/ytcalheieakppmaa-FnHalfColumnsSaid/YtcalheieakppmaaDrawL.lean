/- Contracts of the draws of engines: some list of strings, of the call's own. -/
import Derived.Test.YtcalheieakppmaaDrawK
namespace Go.Proofs.Ytcalheieakppmaa
open Go.RowKit
set_option maxRecDepth 4000

theorem Cl.only {B g r : Nat} {w w' : World} {v : Value} (h : Cl w r v) (nn : Only B g w w') (hr : r < B) (hg : r ≠ g) : Cl w' r v := by
  have hb : w'.heap[r]? = w.heap[r]? := nn.block r hr hg
  refine ⟨?_, ?_, Nat.lt_of_lt_of_le h.2.2 nn.size⟩
  · rw [World.cell?_of_block (w := w) hb]; exact h.1
  · rw [World.frozen?_of_block (w := w) hb]; exact h.2.1

/-- Some list of strings is drawn, the source further on. -/
def OpenE (g : Nat) (P : Int) (w : World) (e : Ending) (w' : World) : Prop :=
  ∃ A c cs, e = .returned (.agg #[.slice A cs.length c]) ∧ (cs.length ≤ 8 ∧ Sizes cs 200) ∧ OwnS 9 w.heap.size w' A c cs ∧ Rdr w' g P ∧ w.grownBy w' (some g)

set_option maxHeartbeats 800000 in
theorem l3Open_any (g : Nat) (P : Int) (w : World) (h : Rdr w g P) (hP : P ≤ 1000) :
    Calls Try.prog 114 #[.pointer (some ⟨g, 0, none⟩)] w fun e w' => OpenE g (P + 410) w e w' := by
  have hgw := h.lt
  have Ca := hd (Cl.new w (.slice none 0 0) 31)
  have B0 := hd ((Below.refl w.heap.size w).alloc (Nat.le_refl _) (.cells #[.slice none 0 0] 31))
  have R0 := hd (h.below B0.out hgw)
  have N0 := hd (Only.below (g := g) B0.out (Nat.le_refl _))
  have hsz0 : (w.alloc (.cells #[.slice none 0 0] 31)).heap.size = w.heap.size + 1 := by simp
  clear h
  go_enter Try.func114, Try.ntmps114
  go_wp2_with fail
  refine (l3Some_any g P _ R0.out (by omega)).mono ?_
  rintro e w1 ⟨A, c, cs, rfl, ⟨h1, h7, hs⟩, own, rd, gr⟩
  rw [hsz0] at own
  have Own := hd own
  have Rd := hd rd
  have Hs := hd hs
  have hsz1 : w.heap.size + 1 ≤ w1.heap.size := by have := gr.size; rw [hsz0] at this; exact this
  have N1 := hd (N0.out.trans (Only.grown (B := w.heap.size) gr (by rw [hsz0]; omega)))
  have Ca1 := hd (Ca.out.other gr (by omega))
  clear own rd gr hs hsz0
  go_wp2_with fail
  refine (l3Bad_any (w.heap.size + 1) g (P + 400) A c cs.length cs _ rfl Rd.out (by omega) Own.out (by omega) hsz1 h1 h7 Hs.out).mono ?_
  rintro e w2 ⟨A2, c2, ys, rfl, hy, own2, rd2, nn⟩
  have Ca2 := hd (Ca1.out.only nn (by omega) (by omega))
  obtain ⟨c1, f1, -⟩ := Ca2.out
  have bs := (Below.refl w.heap.size w2).setCell (p := ⟨w.heap.size, 0, none⟩) (Nat.le_refl _) (.slice A2 ys.length c2)
  have Hf : Hid (OpenE g (P + 410) w (.returned (.agg #[.slice A2 ys.length c2])) (w2.setCell ⟨w.heap.size, 0, none⟩ (.slice A2 ys.length c2))) := hd
    ⟨A2, c2, ys, rfl, hy, (own2.keep_lo (grown_set w2 ⟨w.heap.size, 0, none⟩ (.slice A2 ys.length c2)) (fun r hr => by simp at hr; omega)).low (by omega), (rd2.below bs hgw).more (by omega), ((N1.out.trans ⟨nn.os, nn.tape, nn.output, nn.size, fun i hi hne => nn.block i (by omega) hne⟩).trans (Only.below (g := g) bs (Nat.le_refl _))).grownBy⟩
  clear bs own2 rd2 nn hy
  go_wp2
  exact bodyPost_ret (v := .agg #[.slice A2 ys.length c2]) (by simp [results, Try.results114, c1, go_sem]) rfl Hf.out

/-- What a law is given by a draw of one engine. -/
def DrewE (w : World) (e : Ending) (w' : World) : Prop :=
  ∃ A c cs, e = .returned (.agg #[.slice A cs.length c]) ∧ (cs.length ≤ 8 ∧ Sizes cs 200) ∧ OwnS 9 w.heap.size w' A c cs ∧ Below w.heap.size w w'

set_option maxHeartbeats 800000 in
theorem DrawTurnFirst_any (A : Option Addr) (c : Nat) (zs : List Int) (w : World) (h : SR w A (zs.map (Value.int .u8))) (hcap : zs.length ≤ c) (hx : ∀ x ∈ zs, 0 ≤ x ∧ x ≤ 255) :
    Calls Try.prog 50 #[.slice A zs.length c] w fun e w' => DrewE w e w' := by
  have Ca := hd (Cl.new w (.slice none 0 0) 31)
  have B0 := hd ((Below.refl w.heap.size w).alloc (Nat.le_refl _) (.cells #[.slice none 0 0] 31))
  have H := hd (h.below B0.out)
  have Hx := hd hx
  have hsz0 : (w.alloc (.cells #[.slice none 0 0] 31)).heap.size = w.heap.size + 1 := by simp
  clear h hx
  go_enter Try.func50, Try.ntmps50
  go_wp2_with fail
  refine (l9Open_any A c zs _ H.out hcap Hx.out).mono ?_
  rintro e w1 ⟨g, rfl, hg, rd, b1⟩
  rw [hsz0] at hg
  have Rd := hd rd
  have Ca1 := hd (Ca.out.below b1)
  have B1 := hd (B0.out.trans (b1.mono (by rw [hsz0]; omega)))
  have hsz1 : w.heap.size + 1 ≤ w1.heap.size := by have := b1.size; rw [hsz0] at this; exact this
  clear rd b1 hsz0
  go_wp2_with fail
  refine (l3Open_any g 0 _ Rd.out (by omega)).mono ?_
  rintro e w2 ⟨A2, c2, ys, rfl, hy, own2, rd2, gr⟩
  have Ca2 := hd (Ca1.out.other gr (by omega))
  obtain ⟨c1, f1, -⟩ := Ca2.out
  have Hf : Hid (DrewE w (.returned (.agg #[.slice A2 ys.length c2])) (w2.setCell ⟨w.heap.size, 0, none⟩ (.slice A2 ys.length c2))) := hd
    ⟨A2, c2, ys, rfl, hy, (own2.keep_lo (grown_set w2 ⟨w.heap.size, 0, none⟩ (.slice A2 ys.length c2)) (fun r hr => by simp at hr; omega)).low (by omega), (grown_new B1.out (show w.heap.size ≤ g by omega) gr).setCell (p := ⟨w.heap.size, 0, none⟩) (Nat.le_refl _) _⟩
  clear own2 rd2 gr hy
  go_wp2
  exact bodyPost_ret (v := .agg #[.slice A2 ys.length c2]) (by simp [results, Try.results50, c1, go_sem]) rfl Hf.out

set_option maxHeartbeats 800000 in
theorem DrawTurnWhole_any (A : Option Addr) (c : Nat) (zs : List Int) (w : World) (h : SR w A (zs.map (Value.int .u8))) (hcap : zs.length ≤ c) (hx : ∀ x ∈ zs, 0 ≤ x ∧ x ≤ 255) :
    Calls Try.prog 62 #[.slice A zs.length c] w fun e w' => DrewE w e w' := by
  have Ca := hd (Cl.new w (.slice none 0 0) 31)
  have B0 := hd ((Below.refl w.heap.size w).alloc (Nat.le_refl _) (.cells #[.slice none 0 0] 31))
  have H := hd (h.below B0.out)
  have Hx := hd hx
  have hsz0 : (w.alloc (.cells #[.slice none 0 0] 31)).heap.size = w.heap.size + 1 := by simp
  clear h hx
  go_enter Try.func62, Try.ntmps62
  go_wp2_with fail
  refine (l9Open_any A c zs _ H.out hcap Hx.out).mono ?_
  rintro e w1 ⟨g, rfl, hg, rd, b1⟩
  rw [hsz0] at hg
  have Rd := hd rd
  have Ca1 := hd (Ca.out.below b1)
  have B1 := hd (B0.out.trans (b1.mono (by rw [hsz0]; omega)))
  have hsz1 : w.heap.size + 1 ≤ w1.heap.size := by have := b1.size; rw [hsz0] at this; exact this
  clear rd b1 hsz0
  go_wp2_with fail
  refine (l3Open_any g 0 _ Rd.out (by omega)).mono ?_
  rintro e w2 ⟨A2, c2, ys, rfl, hy, own2, rd2, gr⟩
  have Ca2 := hd (Ca1.out.other gr (by omega))
  obtain ⟨c1, f1, -⟩ := Ca2.out
  have Hf : Hid (DrewE w (.returned (.agg #[.slice A2 ys.length c2])) (w2.setCell ⟨w.heap.size, 0, none⟩ (.slice A2 ys.length c2))) := hd
    ⟨A2, c2, ys, rfl, hy, (own2.keep_lo (grown_set w2 ⟨w.heap.size, 0, none⟩ (.slice A2 ys.length c2)) (fun r hr => by simp at hr; omega)).low (by omega), (grown_new B1.out (show w.heap.size ≤ g by omega) gr).setCell (p := ⟨w.heap.size, 0, none⟩) (Nat.le_refl _) _⟩
  clear own2 rd2 gr hy
  go_wp2
  exact bodyPost_ret (v := .agg #[.slice A2 ys.length c2]) (by simp [results, Try.results62, c1, go_sem]) rfl Hf.out

set_option maxHeartbeats 800000 in
theorem DrawTurnBack_any (A : Option Addr) (c : Nat) (zs : List Int) (w : World) (h : SR w A (zs.map (Value.int .u8))) (hcap : zs.length ≤ c) (hx : ∀ x ∈ zs, 0 ≤ x ∧ x ≤ 255) :
    Calls Try.prog 57 #[.slice A zs.length c] w fun e w' => DrewE w e w' := by
  have Ca := hd (Cl.new w (.slice none 0 0) 31)
  have B0 := hd ((Below.refl w.heap.size w).alloc (Nat.le_refl _) (.cells #[.slice none 0 0] 31))
  have H := hd (h.below B0.out)
  have Hx := hd hx
  have hsz0 : (w.alloc (.cells #[.slice none 0 0] 31)).heap.size = w.heap.size + 1 := by simp
  clear h hx
  go_enter Try.func57, Try.ntmps57
  go_wp2_with fail
  refine (l9Open_any A c zs _ H.out hcap Hx.out).mono ?_
  rintro e w1 ⟨g, rfl, hg, rd, b1⟩
  rw [hsz0] at hg
  have Rd := hd rd
  have Ca1 := hd (Ca.out.below b1)
  have B1 := hd (B0.out.trans (b1.mono (by rw [hsz0]; omega)))
  have hsz1 : w.heap.size + 1 ≤ w1.heap.size := by have := b1.size; rw [hsz0] at this; exact this
  clear rd b1 hsz0
  go_wp2_with fail
  refine (l3Open_any g 0 _ Rd.out (by omega)).mono ?_
  rintro e w2 ⟨A2, c2, ys, rfl, hy, own2, rd2, gr⟩
  have Ca2 := hd (Ca1.out.other gr (by omega))
  obtain ⟨c1, f1, -⟩ := Ca2.out
  have Hf : Hid (DrewE w (.returned (.agg #[.slice A2 ys.length c2])) (w2.setCell ⟨w.heap.size, 0, none⟩ (.slice A2 ys.length c2))) := hd
    ⟨A2, c2, ys, rfl, hy, (own2.keep_lo (grown_set w2 ⟨w.heap.size, 0, none⟩ (.slice A2 ys.length c2)) (fun r hr => by simp at hr; omega)).low (by omega), (grown_new B1.out (show w.heap.size ≤ g by omega) gr).setCell (p := ⟨w.heap.size, 0, none⟩) (Nat.le_refl _) _⟩
  clear own2 rd2 gr hy
  go_wp2
  exact bodyPost_ret (v := .agg #[.slice A2 ys.length c2]) (by simp [results, Try.results57, c1, go_sem]) rfl Hf.out

set_option maxHeartbeats 800000 in
theorem DrawSkewEngine_any (A : Option Addr) (c : Nat) (zs : List Int) (w : World) (h : SR w A (zs.map (Value.int .u8))) (hcap : zs.length ≤ c) (hx : ∀ x ∈ zs, 0 ≤ x ∧ x ≤ 255) :
    Calls Try.prog 75 #[.slice A zs.length c] w fun e w' => DrewE w e w' := by
  have Ca := hd (Cl.new w (.slice none 0 0) 31)
  have B0 := hd ((Below.refl w.heap.size w).alloc (Nat.le_refl _) (.cells #[.slice none 0 0] 31))
  have H := hd (h.below B0.out)
  have Hx := hd hx
  have hsz0 : (w.alloc (.cells #[.slice none 0 0] 31)).heap.size = w.heap.size + 1 := by simp
  clear h hx
  go_enter Try.func75, Try.ntmps75
  go_wp2_with fail
  refine (l9Open_any A c zs _ H.out hcap Hx.out).mono ?_
  rintro e w1 ⟨g, rfl, hg, rd, b1⟩
  rw [hsz0] at hg
  have Rd := hd rd
  have Ca1 := hd (Ca.out.below b1)
  have B1 := hd (B0.out.trans (b1.mono (by rw [hsz0]; omega)))
  have hsz1 : w.heap.size + 1 ≤ w1.heap.size := by have := b1.size; rw [hsz0] at this; exact this
  clear rd b1 hsz0
  go_wp2_with fail
  refine (l3Open_any g 0 _ Rd.out (by omega)).mono ?_
  rintro e w2 ⟨A2, c2, ys, rfl, hy, own2, rd2, gr⟩
  have Ca2 := hd (Ca1.out.other gr (by omega))
  obtain ⟨c1, f1, -⟩ := Ca2.out
  have Hf : Hid (DrewE w (.returned (.agg #[.slice A2 ys.length c2])) (w2.setCell ⟨w.heap.size, 0, none⟩ (.slice A2 ys.length c2))) := hd
    ⟨A2, c2, ys, rfl, hy, (own2.keep_lo (grown_set w2 ⟨w.heap.size, 0, none⟩ (.slice A2 ys.length c2)) (fun r hr => by simp at hr; omega)).low (by omega), (grown_new B1.out (show w.heap.size ≤ g by omega) gr).setCell (p := ⟨w.heap.size, 0, none⟩) (Nat.le_refl _) _⟩
  clear own2 rd2 gr hy
  go_wp2
  exact bodyPost_ret (v := .agg #[.slice A2 ys.length c2]) (by simp [results, Try.results75, c1, go_sem]) rfl Hf.out

set_option maxHeartbeats 800000 in
theorem DrawUnskewEngine_any (A : Option Addr) (c : Nat) (zs : List Int) (w : World) (h : SR w A (zs.map (Value.int .u8))) (hcap : zs.length ≤ c) (hx : ∀ x ∈ zs, 0 ≤ x ∧ x ≤ 255) :
    Calls Try.prog 70 #[.slice A zs.length c] w fun e w' => DrewE w e w' := by
  have Ca := hd (Cl.new w (.slice none 0 0) 31)
  have B0 := hd ((Below.refl w.heap.size w).alloc (Nat.le_refl _) (.cells #[.slice none 0 0] 31))
  have H := hd (h.below B0.out)
  have Hx := hd hx
  have hsz0 : (w.alloc (.cells #[.slice none 0 0] 31)).heap.size = w.heap.size + 1 := by simp
  clear h hx
  go_enter Try.func70, Try.ntmps70
  go_wp2_with fail
  refine (l9Open_any A c zs _ H.out hcap Hx.out).mono ?_
  rintro e w1 ⟨g, rfl, hg, rd, b1⟩
  rw [hsz0] at hg
  have Rd := hd rd
  have Ca1 := hd (Ca.out.below b1)
  have B1 := hd (B0.out.trans (b1.mono (by rw [hsz0]; omega)))
  have hsz1 : w.heap.size + 1 ≤ w1.heap.size := by have := b1.size; rw [hsz0] at this; exact this
  clear rd b1 hsz0
  go_wp2_with fail
  refine (l3Open_any g 0 _ Rd.out (by omega)).mono ?_
  rintro e w2 ⟨A2, c2, ys, rfl, hy, own2, rd2, gr⟩
  have Ca2 := hd (Ca1.out.other gr (by omega))
  obtain ⟨c1, f1, -⟩ := Ca2.out
  have Hf : Hid (DrewE w (.returned (.agg #[.slice A2 ys.length c2])) (w2.setCell ⟨w.heap.size, 0, none⟩ (.slice A2 ys.length c2))) := hd
    ⟨A2, c2, ys, rfl, hy, (own2.keep_lo (grown_set w2 ⟨w.heap.size, 0, none⟩ (.slice A2 ys.length c2)) (fun r hr => by simp at hr; omega)).low (by omega), (grown_new B1.out (show w.heap.size ≤ g by omega) gr).setCell (p := ⟨w.heap.size, 0, none⟩) (Nat.le_refl _) _⟩
  clear own2 rd2 gr hy
  go_wp2
  exact bodyPost_ret (v := .agg #[.slice A2 ys.length c2]) (by simp [results, Try.results70, c1, go_sem]) rfl Hf.out

set_option maxHeartbeats 800000 in
theorem DrawTurnHalves_any (A : Option Addr) (c : Nat) (zs : List Int) (w : World) (h : SR w A (zs.map (Value.int .u8))) (hcap : zs.length ≤ c) (hx : ∀ x ∈ zs, 0 ≤ x ∧ x ≤ 255) :
    Calls Try.prog 72 #[.slice A zs.length c] w fun e w' => DrewE w e w' := by
  have Ca := hd (Cl.new w (.slice none 0 0) 31)
  have B0 := hd ((Below.refl w.heap.size w).alloc (Nat.le_refl _) (.cells #[.slice none 0 0] 31))
  have H := hd (h.below B0.out)
  have Hx := hd hx
  have hsz0 : (w.alloc (.cells #[.slice none 0 0] 31)).heap.size = w.heap.size + 1 := by simp
  clear h hx
  go_enter Try.func72, Try.ntmps72
  go_wp2_with fail
  refine (l9Open_any A c zs _ H.out hcap Hx.out).mono ?_
  rintro e w1 ⟨g, rfl, hg, rd, b1⟩
  rw [hsz0] at hg
  have Rd := hd rd
  have Ca1 := hd (Ca.out.below b1)
  have B1 := hd (B0.out.trans (b1.mono (by rw [hsz0]; omega)))
  have hsz1 : w.heap.size + 1 ≤ w1.heap.size := by have := b1.size; rw [hsz0] at this; exact this
  clear rd b1 hsz0
  go_wp2_with fail
  refine (l3Open_any g 0 _ Rd.out (by omega)).mono ?_
  rintro e w2 ⟨A2, c2, ys, rfl, hy, own2, rd2, gr⟩
  have Ca2 := hd (Ca1.out.other gr (by omega))
  obtain ⟨c1, f1, -⟩ := Ca2.out
  have Hf : Hid (DrewE w (.returned (.agg #[.slice A2 ys.length c2])) (w2.setCell ⟨w.heap.size, 0, none⟩ (.slice A2 ys.length c2))) := hd
    ⟨A2, c2, ys, rfl, hy, (own2.keep_lo (grown_set w2 ⟨w.heap.size, 0, none⟩ (.slice A2 ys.length c2)) (fun r hr => by simp at hr; omega)).low (by omega), (grown_new B1.out (show w.heap.size ≤ g by omega) gr).setCell (p := ⟨w.heap.size, 0, none⟩) (Nat.le_refl _) _⟩
  clear own2 rd2 gr hy
  go_wp2
  exact bodyPost_ret (v := .agg #[.slice A2 ys.length c2]) (by simp [results, Try.results72, c1, go_sem]) rfl Hf.out

end Go.Proofs.Ytcalheieakppmaa
