/- Contracts of the draws that sometimes spoil a polynomial. -/
import Derived.Test.YthoodhdcmckkpaaDrawB
namespace Go.Proofs.Ythoodhdcmckkpaa
open Go.RowKit

/-- Below block B only block g may have changed. -/
structure Only (B g : Nat) (w w' : World) : Prop where
  os : w'.os = w.os
  tape : w'.tape = w.tape
  output : w'.output = w.output
  size : w.heap.size ≤ w'.heap.size
  block : ∀ k, k < B → k ≠ g → w'.heap[k]? = w.heap[k]?

theorem Only.refl (B g : Nat) (w : World) : Only B g w w := ⟨rfl, rfl, rfl, Nat.le_refl _, fun _ _ _ => rfl⟩
theorem Only.trans {B g : Nat} {a b c : World} (h : Only B g a b) (k : Only B g b c) : Only B g a c :=
  ⟨k.os.trans h.os, k.tape.trans h.tape, k.output.trans h.output, Nat.le_trans h.size k.size, fun i hi hne => (k.block i hi hne).trans (h.block i hi hne)⟩
theorem Only.grown {B g : Nat} {a b : World} (h : a.grownBy b (some g)) (hB : B ≤ a.heap.size) : Only B g a b :=
  ⟨h.os, h.tape, h.output, h.size, fun i hi hne => h.block i (by omega) (by simpa using hne)⟩
theorem Only.below {B B' g : Nat} {a b : World} (h : Below B' a b) (hB : B ≤ B') : Only B g a b :=
  ⟨h.os, h.tape, h.output, h.size, fun i hi _ => h.block i (by omega)⟩
theorem Only.grownBy {g : Nat} {a b : World} (h : Only a.heap.size g a b) : a.grownBy b (some g) :=
  ⟨h.os, h.tape, h.output, h.size, fun i hi hne => h.block i hi (by simpa using hne)⟩

/-- A list that has been spoiled, perhaps. -/
def Spoiled (E : TypeId) (Q : List Int → Prop) (B g : Nat) (P : Int) (w : World) (e : Ending) (w' : World) : Prop :=
  ∃ A c zs, e = .returned (.slice A zs.length c) ∧ Q zs ∧ OwnI E B w' A c zs ∧ zs.length ≤ c ∧ Rdr w' g P ∧ Only B g w w'

def badNums : List Int := [100000, 100001, -100000, -100001, 9223372036854775807]

theorem OwnI.cut0 {E : TypeId} {B : Nat} {w : World} {A : Option Addr} {c : Nat} {zs : List Int} (h : OwnI E B w A c zs) : OwnI E B w A c [] := by
  refine ⟨by simp, ?_⟩
  rcases h.2.2 with ⟨h1, h2⟩ | ⟨g, cap, cur, hv, h3, h4, h5, h6, h7, h8⟩
  · simp only [Value.slice.injEq] at h1
    obtain ⟨rfl, _, rfl⟩ := h1
    exact World.ownsRow_nil _ _ _ _
  · simp only [Value.slice.injEq] at hv
    obtain ⟨rfl, _, rfl⟩ := hv
    exact ⟨by simp, .inr ⟨g, c, cur, rfl, h3, h4, by simp, h6, h7, by simp⟩⟩

set_option maxHeartbeats 1600000 in
theorem l2Bad_any (B g : Nat) (P : Int) (A : Option Addr) (c : Nat) (zs : List Int) (w : World) (h : Rdr w g P) (hP : P ≤ 1000) (ho : OwnI 3 B w A c zs) (hg : g < B) (hB : B ≤ w.heap.size) (hl : 1 ≤ zs.length) (hl' : zs.length ≤ 8) :
    Calls Try.prog 100 #[.pointer (some ⟨g, 0, none⟩), .slice A zs.length c] w fun e w' => Spoiled 3 (fun zs => zs.length ≤ 8) B g (P + 10) w e w' := by
  obtain ⟨i0, hi, hz0, hz1, hz2⟩ := info_parts infoI
  have H := hd h
  have Ho := hd ho
  have hcap := ho.cap
  clear h ho
  go_enter Try.func100, Try.ntmps100
  go_wp2_with fail
  refine (pick_any g P zs.length _ H.out (by omega)).mono ?_
  rintro e w1 ⟨k, rfl, hk, r1, g1⟩
  obtain ⟨hk0, hk1⟩ := hk
  have hk2 := hk1 (by omega)
  obtain ⟨k, rfl⟩ := Int.eq_ofNat_of_zero_le hk0
  have hkz : k < zs.length := by omega
  have O1 := hd (Ho.out.keep_lo g1 (fun r hr => by simp at hr; omega))
  have N1 := hd (Only.grown (B := B) g1 hB)
  have hB1 : B ≤ w1.heap.size := Nat.le_trans hB g1.size
  clear hk1 g1
  go_wp2_with fail
  refine (pick_any g (P + 1) 40 _ r1 (by omega)).mono ?_
  rintro e w2 ⟨v, rfl, hv, r2, g2⟩
  obtain ⟨hv0, hv1⟩ := hv
  have O2 := hd (O1.out.keep_lo g2 (fun r hr => by simp at hr; omega))
  have N2 := hd (N1.out.trans (Only.grown (B := B) g2 hB1))
  have hB2 : B ≤ w2.heap.size := Nat.le_trans hB1 g2.size
  have R2 := hd r2
  clear hv1 r1 r2 g2
  by_cases h0 : v = 0
  · subst h0
    have Hlit : Hid (OwnI 3 w2.heap.size (w2.alloc (.cells #[.int .i64 100000, .int .i64 100001, .int .i64 (-100000), .int .i64 (-100001), .int .i64 9223372036854775807] 3)) (some ⟨w2.heap.size, 0, none⟩) 5 badNums) := hd
      ⟨by simp [badNums], World.ownsRow_lit _ #[.int .i64 100000, .int .i64 100001, .int .i64 (-100000), .int .i64 (-100001), .int .i64 9223372036854775807] 5 (Nat.le_refl _) (by simp [maxLen]) rfl⟩
    have hgw : g < w2.heap.size := by omega
    have Ra := hd (R2.out.below ((Below.refl w2.heap.size w2).alloc (Nat.le_refl _) (.cells #[.int .i64 100000, .int .i64 100001, .int .i64 (-100000), .int .i64 (-100001), .int .i64 9223372036854775807] 3)) hgw)
    have Hbl : Hid (0 < badNums.length) := hd (by simp [badNums])
    go_wp2_with fail
    refine (num_any g (P + 1 + 1) _ 5 badNums _ Ra.out (by omega) Hlit.out.si (Hlit.out.off hgw) Hbl.out).mono ?_
    rintro e w3 ⟨x, rfl, hx, r3, g3⟩
    have O3 := hd ((O2.out.alloc _).keep_lo g3 (fun r hr => by simp at hr; omega))
    have N3 := hd ((N2.out.trans (Only.below ((Below.refl w2.heap.size w2).alloc (Nat.le_refl _) _) hB2)).trans (Only.grown (B := B) g3 (by simp; omega)))
    obtain ⟨gp, o, ho, rfl, hc, hf⟩ := O3.out.at_ hkz
    have hgp : B ≤ gp := (O3.out.2.lt gp rfl).1
    have O4 := hd (O3.out.set k x)
    have bel4 := (Below.refl B w3).setCell (p := ⟨gp, k, none⟩) hgp (.int .i64 x)
    have R4 := hd (r3.below bel4 hg)
    have N4 := hd (N3.out.trans (Only.below bel4 (Nat.le_refl _)))
    have Hlen : Hid ((zs.set k x).length = zs.length) := hd (by simp)
    clear hx r3 g3 ho bel4 hgp
    go_wp2
    go_ret
    exact ⟨some ⟨gp, 0, none⟩, c, zs.set k x, by rw [Hlen.out]; rfl, by show (zs.set k x).length ≤ 8; rw [Hlen.out]; exact hl', O4.out, by rw [Hlen.out]; exact hcap, R4.out.more (by omega), N4.out⟩
  by_cases h1 : v = 1
  · subst h1
    go_wp2
    go_ret
    exact ⟨A, c, [], rfl, by simp, O2.out.cut0, by simp, R2.out.more (by omega), N2.out⟩
  by_cases h2 : v = 2
  · subst h2
    go_wp2
    go_loopw [1] (fun r wr => ∃ (A' : Option Addr) (c' : Nat) (ys : List Int), r = .slice A' ys.length c' ∧ ys.length ≤ 8 ∧ OwnI 3 B wr A' c' ys ∧ Rdr wr g (P + 1 + 1) ∧ Only B g w wr)
      (fun r _ => 8 - sliceLen r)
    case atStart => exact ⟨A, c, zs, rfl, hl', O2.out, R2.out, N2.out⟩
    case round =>
      clear O2 N2 R2 hB2 O1 N1 hB1 Ho H
      obtain ⟨A', c', ys, rfl, hy8, own, rd, nn⟩ := hrel
      have Own := hd own
      have Rd := hd rd
      have Nn := hd nn
      have hBr : B ≤ wr.heap.size := Nat.le_trans hB nn.size
      clear own rd nn
      by_cases hlt : ys.length < 8
      · go_wp2_with (at_builtin; refine wpList_app1 rfl _ _ 23 3 rfl B i0 Try.underlying23 hi hz0 hz1 hz2 ys.length A' c' ys wr.heap.size 1 rfl rfl rfl (new_cell _ _ _) (Own.out.alloc _) (by omega) (by simp; omega) ?_; intro A2 c2 w5 hown2 hbel2 _)
        have Hown2 := hd hown2
        have bel5 := ((Below.refl B wr).alloc hBr (.cells #[.int .i64 1] 3)).trans hbel2
        have R5 := hd (Rd.out.below bel5 hg)
        have N5 := hd (Nn.out.trans (Only.below bel5 (Nat.le_refl _)))
        clear hown2 hbel2 bel5
        go_wp2
        go_roundw
        case rel => exact ⟨A2, c2, ys ++ [1], by simp, by simp; omega, Hown2.out, R5.out, N5.out⟩
        case measure => simp [sliceLen]; omega
      · go_wp2
        go_ret
        exact ⟨A', c', ys, rfl, hy8, Own.out, Own.out.cap, Rd.out.more (by omega), Nn.out⟩
  · have e0 : (v == 0) = false := by simp [h0]
    have e1 : (v == 1) = false := by simp [h1]
    have e2 : (v == 2) = false := by simp [h2]
    clear h0 h1 h2
    go_wp2
    go_ret
    exact ⟨A, c, zs, rfl, hl', O2.out, hcap, R2.out.more (by omega), N2.out⟩

/-- A list has been drawn, of whatever content. -/
def DrawnAny (E : TypeId) (g : Nat) (P : Int) (w : World) (e : Ending) (w' : World) : Prop := Drawn E (fun zs => zs.length ≤ 8) g P w e w'

set_option maxHeartbeats 800000 in
theorem l2Open_any (g : Nat) (P : Int) (w : World) (h : Rdr w g P) (hP : P ≤ 900) :
    Calls Try.prog 72 #[.pointer (some ⟨g, 0, none⟩)] w fun e w' => DrawnAny 3 g (P + 30) w e w' := by
  have H := hd h
  have hg := h.lt
  clear h
  go_enter Try.func72, Try.ntmps72
  go_wp2_with fail
  refine (l2Some_any g P _ H.out (by omega)).mono ?_
  rintro e w1 ⟨A, c, zs, rfl, hq, own, hcap, rd, gr⟩
  obtain ⟨q1, q2, q3⟩ := hq
  have Own := hd own
  have Rd := hd rd
  have Gr := hd gr
  have hsz : w.heap.size ≤ w1.heap.size := gr.size
  clear own rd gr q3
  go_wp2_with fail
  refine (l2Bad_any w.heap.size g (P + 20) A c zs _ Rd.out (by omega) Own.out hg hsz q1 (by omega)).mono ?_
  rintro e w2 ⟨A2, c2, ys, rfl, hy, own2, hcap2, rd2, nn⟩
  have Own2 := hd own2
  have Rd2 := hd (rd2.more (show P + 20 + 10 ≤ P + 30 by omega))
  have Gr2 := hd ((Only.grown Gr.out (Nat.le_refl _)).trans nn).grownBy
  clear own2 rd2 nn
  go_wp2
  go_ret
  exact ⟨A2, c2, ys, rfl, hy, Own2.out, hcap2, Rd2.out, Gr2.out⟩

/-- What a law is given by a draw of one polynomial. -/
def Drew (E : TypeId) (w : World) (e : Ending) (w' : World) : Prop :=
  ∃ A c zs, e = .returned (.slice A zs.length c) ∧ zs.length ≤ 8 ∧ OwnI E w.heap.size w' A c zs ∧ zs.length ≤ c ∧ Below w.heap.size w w'

theorem grown_new {a b c : World} {g : Nat} (hb : Below a.heap.size a b) (hg : a.heap.size ≤ g) (k : b.grownBy c (some g)) : Below a.heap.size a c :=
  hb.grown k hb.size fun r hr => by simp at hr; omega

theorem drew_of {E : TypeId} {w w1 w2 : World} {g : Nat} {P : Int} {e : Ending} (hb : Below w.heap.size w w1) (hg : w.heap.size ≤ g) (h : DrawnAny E g P w1 e w2) : Drew E w e w2 := by
  obtain ⟨A, c, zs, rfl, hl, ho, hc, _, hgr⟩ := h
  exact ⟨A, c, zs, rfl, hl, ho.low hb.size, hc, grown_new hb hg hgr⟩

end Go.Proofs.Ythoodhdcmckkpaa
