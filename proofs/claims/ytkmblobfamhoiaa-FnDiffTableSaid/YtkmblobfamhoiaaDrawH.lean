/- Contracts of the reference's draws of tables. -/
import Derived.Test.YtkmblobfamhoiaaGrH
import Derived.Test.YtkmblobfamhoiaaSpecI
import Derived.OwnWalk
namespace Go.Proofs.Ytkmblobfamhoiaa
open Go.RowKit
set_option maxRecDepth 4000

theorem small_valid {p : List Int} (h : SmallPoly p) : validP p = true :=
  validP_iff.2 ⟨h.1, by have := h.2.1; omega, fun x hx => by have := h.2.2 x hx; omega⟩

theorem l2Values_i (cI : Int) (A : Option Addr) (c : Nat) (p : List Int) (frm stp : Int) (cnt : Nat) (w : World) (hci : cI = (cnt : Int)) (h : SI w A p) (hv : validP p = true) (hs1 : -1000 ≤ stp) (hs2 : stp ≤ 1000) (hc : cnt ≤ 1000)
    (hr : ∀ i : Nat, i < cnt → -300 ≤ frm + stp * i ∧ frm + stp * i ≤ 300) :
    Calls Try.prog 148 #[.slice A p.length c, .int .i64 frm, .int .i64 stp, .int .i64 cI] w fun e w' => RetI 3 w.heap.size w (tab cnt fun i => val p (frm + stp * i)) e w' := by
  subst hci; exact l2Values_any A c p frm stp cnt w h hv hs1 hs2 hc hr

def TabLen (zs : List Int) : Prop := 1 ≤ zs.length ∧ zs.length ≤ 14

set_option maxHeartbeats 1600000 in
theorem l2Table_any (g : Nat) (P : Int) (w : World) (h : Rdr w g P) (hP : P ≤ 900) :
    Calls Try.prog 129 #[.pointer (some ⟨g, 0, none⟩)] w fun e w' => Drawn 3 TabLen g (P + 50) w e w' := by
  have hg := h.lt
  have H := hd h
  clear h
  go_enter Try.func129, Try.ntmps129
  go_wp2_with fail
  refine (l2Some_any g P _ H.out (by omega)).mono ?_
  rintro e w1 ⟨A1, c1, p, rfl, hq, own, hcap, rd, gr⟩
  have Hv := hd (small_valid hq)
  have Own := hd own
  have Gr := hd gr
  have hsz : w.heap.size ≤ w1.heap.size := gr.size
  clear own gr hq
  go_wp2_with fail
  refine (pick_any g (P + 20) 14 _ rd (by omega)).mono ?_
  rintro e w2 ⟨v, rfl, hv, rd2, g2⟩
  obtain ⟨hv0, hv1⟩ := hv
  have hv2 := hv1 (by omega)
  obtain ⟨v, rfl⟩ := Int.eq_ofNat_of_zero_le hv0
  have Own := hd (Own.out.keep_lo g2 (fun r hr => by simp at hr; omega))
  have Gr := hd (only_trans Gr.out g2)
  have Rd := hd rd2
  have hsz2 : w.heap.size ≤ w2.heap.size := Gr.out.size
  clear g2 rd rd2 hv1
  have Hr : Hid (∀ i : Nat, i < v + 1 → -300 ≤ 0 + 1 * (i : Int) ∧ 0 + 1 * (i : Int) ≤ 300) := hd (fun i hi => by omega)
  go_wp2_with fail
  refine (l2Values_i _ A1 c1 p 0 1 (v + 1) _ (by omega) Own.out.si Hv.out (by omega) (by omega) (by omega) Hr.out).mono ?_
  rintro e w3 ⟨A3, c3, rfl, own3, b3⟩
  obtain ⟨zs, Hzs⟩ : ∃ zs, Hid ((tab (v + 1) fun i => val p (0 + 1 * i)) = zs) := ⟨_, hd rfl⟩
  rw [Hzs.out] at own3 ⊢
  have Hzl : Hid (zs.length = v + 1) := hd (by rw [← Hzs.out, tab_length])
  have hz1 : 1 ≤ zs.length := by rw [Hzl.out]; omega
  have hz14 : zs.length ≤ 14 := by rw [Hzl.out]; omega
  have Own := hd (own3.low hsz2)
  have Gr := hd (only_below Gr.out (b3.mono hsz2))
  have Rd := hd (Rd.out.below b3 (by omega))
  have hsz3 : w.heap.size ≤ w3.heap.size := Gr.out.size
  clear own3 b3
  go_wp2_with fail
  refine (pick_any g (P + 21) 5 _ (Rd.out.more (by omega)) (by omega)).mono ?_
  rintro e w4 ⟨s, rfl, hs, rd4, g4⟩
  have Own := hd (Own.out.keep_lo g4 (fun r hr => by simp at hr; omega))
  have Gr := hd (only_trans Gr.out g4)
  have Rd := hd rd4
  have hsz4 : w.heap.size ≤ w4.heap.size := Gr.out.size
  clear g4 rd4 hs
  by_cases h0 : s = 0
  · subst h0
    go_wp2_with fail
    refine (pick_any g (P + 22) zs.length _ (Rd.out.more (by omega)) (by omega)).mono ?_
    rintro e w5 ⟨k, rfl, hk, rd5, g5⟩
    obtain ⟨hk0, hk1⟩ := hk
    have hk2 := hk1 (by omega)
    obtain ⟨k, rfl⟩ := Int.eq_ofNat_of_zero_le hk0
    have Own := hd (Own.out.keep_lo g5 (fun r hr => by simp at hr; omega))
    have Gr := hd (only_trans Gr.out g5)
    have Rd := hd rd5
    clear g5 rd5 hk1
    go_wp2_with fail
    refine (pick_any g (P + 23) 100 _ (Rd.out.more (by omega)) (by omega)).mono ?_
    rintro e w6 ⟨x, rfl, hx, rd6, g6⟩
    have Own := hd (Own.out.keep_lo g6 (fun r hr => by simp at hr; omega))
    have Gr := hd (only_trans Gr.out g6)
    obtain ⟨gp, o, ho, rfl, hc, hf⟩ := Own.out.at_ (k := k) (by omega)
    have hgp : w.heap.size ≤ gp := (Own.out.2.lt gp rfl).1
    have O4 := hd (Own.out.set k x)
    have bel4 := (Below.refl w.heap.size w6).setCell (p := ⟨gp, k, none⟩) hgp (.int .i64 x)
    have R4 := hd (rd6.below bel4 hg)
    have G4 := hd (only_below Gr.out bel4)
    have Hlen : Hid ((zs.set k x).length = zs.length) := hd (by simp)
    clear ho bel4 hgp hx rd6 g6
    go_wp2
    go_ret
    exact ⟨some ⟨gp, 0, none⟩, c3, zs.set k x, by rw [Hlen.out]; rfl, ⟨by rw [Hlen.out]; exact hz1, by rw [Hlen.out]; exact hz14⟩, O4.out, O4.out.cap, R4.out.more (by omega), G4.out⟩
  by_cases h1 : s = 1
  · subst h1
    go_wp2
    go_loopw [5] (fun i wr => ∃ (k : Nat) (ys : List Int), k ≤ zs.length ∧ i = .int .i64 k ∧ ys.length = zs.length ∧ OwnI 3 w.heap.size wr A3 c3 ys ∧ Rdr wr g (P + 23 + k) ∧ w.grownBy wr (some g))
      (fun i _ => zs.length - (intOf i).toNat)
    case atStart => exact ⟨0, zs, by omega, rfl, rfl, Own.out, Rd.out.more (by omega), Gr.out⟩
    case round =>
      clear Own Rd Gr
      obtain ⟨k, ys, hk, rfl, hyl, own, rd, gr⟩ := hrel
      have Own := hd own
      have Rd := hd rd
      have Gr := hd gr
      have Hyl := hd hyl
      have hszr : w.heap.size ≤ wr.heap.size := gr.size
      clear own rd gr hyl
      by_cases hlt : k < zs.length
      · go_wp2_with fail
        refine (pick_any g (P + 23 + k) 50 _ Rd.out (by omega)).mono ?_
        rintro e w6 ⟨x, rfl, hx, rd6, g6⟩
        have Own := hd (Own.out.keep_lo g6 (fun r hr => by simp at hr; omega))
        have Gr := hd (only_trans Gr.out g6)
        obtain ⟨gp, o, ho, rfl, hc, hf⟩ := Own.out.at_ (k := k) (by rw [Hyl.out]; exact hlt)
        have hgp : w.heap.size ≤ gp := (Own.out.2.lt gp rfl).1
        have O4 := hd (Own.out.set k x)
        have bel4 := (Below.refl w.heap.size w6).setCell (p := ⟨gp, k, none⟩) hgp (.int .i64 x)
        have R4 := hd (rd6.below bel4 hg)
        have G4 := hd (only_below Gr.out bel4)
        have Hlen : Hid ((ys.set k x).length = zs.length) := hd (by rw [List.length_set]; exact Hyl.out)
        clear ho bel4 hgp hx rd6 g6
        go_wp2
        go_roundw
        case rel => exact ⟨k + 1, ys.set k x, by omega, by go_num, Hlen.out, O4.out, R4.out.more (by omega), G4.out⟩
        case measure => simp [intOf]; omega
      · go_wp2
        go_ret
        exact ⟨A3, c3, ys, by rw [Hyl.out]; rfl, ⟨by rw [Hyl.out]; exact hz1, by rw [Hyl.out]; exact hz14⟩, Own.out, Own.out.cap, Rd.out.more (by omega), Gr.out⟩
  · have e0 : (s == 0) = false := by simp [h0]
    have e1 : (s == 1) = false := by simp [h1]
    clear h0 h1
    go_wp2
    go_ret
    exact ⟨A3, c3, zs, rfl, ⟨hz1, hz14⟩, Own.out, Own.out.cap, Rd.out.more (by omega), Gr.out⟩

def tabNums : List Int := [1000000000, 1000000001, -1000000001, 9223372036854775807]
def lenNums : List Int := [30, 31, 60, 61]

def TabLen2 (zs : List Int) : Prop := zs.length ≤ 61

set_option maxHeartbeats 1600000 in
theorem l2BadTable_any (B g : Nat) (P : Int) (A : Option Addr) (c : Nat) (zs : List Int) (w : World) (h : Rdr w g P) (hP : P ≤ 1000) (ho : OwnI 3 B w A c zs) (hg : g < B) (hB : B ≤ w.heap.size) (hl : 1 ≤ zs.length) (hl' : zs.length ≤ 14) :
    Calls Try.prog 128 #[.pointer (some ⟨g, 0, none⟩), .slice A zs.length c] w fun e w' => Spoiled 3 TabLen2 B g (P + 10) w e w' := by
  obtain ⟨i0, hi, hz0, hz1, hz2⟩ := info_parts infoI
  have H := hd h
  have Ho := hd ho
  have hcap := ho.cap
  clear h ho
  go_enter Try.func128, Try.ntmps128
  go_wp2_with fail
  refine (pick_any g P zs.length _ H.out (by omega)).mono ?_
  rintro e w1 ⟨k, rfl, hk, r1, g1⟩
  obtain ⟨hk0, hk1⟩ := hk
  have hk2 := hk1 (by omega)
  obtain ⟨k, rfl⟩ := Int.eq_ofNat_of_zero_le hk0
  have hkz : k < zs.length := by omega
  have O1 := hd (Ho.out.keep_lo g1 (fun r hr => by simp at hr; omega))
  have N1 := hd (Only.grown (B := B) g1 hB)
  have hB1 : B ≤ w1.heap.size := Nat.le_trans hB g1.size
  clear hk1 g1
  go_wp2_with fail
  refine (pick_any g (P + 1) 40 _ r1 (by omega)).mono ?_
  rintro e w2 ⟨v, rfl, hv, r2, g2⟩
  obtain ⟨hv0, hv1⟩ := hv
  have O2 := hd (O1.out.keep_lo g2 (fun r hr => by simp at hr; omega))
  have N2 := hd (N1.out.trans (Only.grown (B := B) g2 hB1))
  have hB2 : B ≤ w2.heap.size := Nat.le_trans hB1 g2.size
  have R2 := hd r2
  have hgw : g < w2.heap.size := by omega
  clear hv1 r1 r2 g2
  by_cases h0 : v = 0
  · subst h0
    have Hlit : Hid (OwnI 3 w2.heap.size (w2.alloc (.cells #[.int .i64 1000000000, .int .i64 1000000001, .int .i64 (-1000000001), .int .i64 9223372036854775807] 3)) (some ⟨w2.heap.size, 0, none⟩) 4 tabNums) := hd
      ⟨by simp [tabNums], World.ownsRow_lit _ #[.int .i64 1000000000, .int .i64 1000000001, .int .i64 (-1000000001), .int .i64 9223372036854775807] 4 (Nat.le_refl _) (by simp [maxLen]) rfl⟩
    have Ra := hd (R2.out.below ((Below.refl w2.heap.size w2).alloc (Nat.le_refl _) (.cells #[.int .i64 1000000000, .int .i64 1000000001, .int .i64 (-1000000001), .int .i64 9223372036854775807] 3)) hgw)
    have Hbl : Hid (0 < tabNums.length) := hd (by simp [tabNums])
    go_wp2_with fail
    refine (num_any g (P + 1 + 1) _ 4 tabNums _ Ra.out (by omega) Hlit.out.si (Hlit.out.off hgw) Hbl.out).mono ?_
    rintro e w3 ⟨x, rfl, hx, r3, g3⟩
    have O3 := hd ((O2.out.alloc _).keep_lo g3 (fun r hr => by simp at hr; omega))
    have N3 := hd ((N2.out.trans (Only.below ((Below.refl w2.heap.size w2).alloc (Nat.le_refl _) _) hB2)).trans (Only.grown (B := B) g3 (by simp; omega)))
    obtain ⟨gp, o, ho, rfl, hc, hf⟩ := O3.out.at_ hkz
    have hgp : B ≤ gp := (O3.out.2.lt gp rfl).1
    have O4 := hd (O3.out.set k x)
    have bel4 := (Below.refl B w3).setCell (p := ⟨gp, k, none⟩) hgp (.int .i64 x)
    have R4 := hd (r3.below bel4 hg)
    have N4 := hd (N3.out.trans (Only.below bel4 (Nat.le_refl _)))
    have Hlen : Hid ((zs.set k x).length = zs.length) := hd (by simp)
    clear hx r3 g3 ho bel4 hgp
    go_wp2
    go_ret
    exact ⟨some ⟨gp, 0, none⟩, c, zs.set k x, by rw [Hlen.out]; rfl, by show (zs.set k x).length ≤ 61; rw [Hlen.out]; omega, O4.out, by rw [Hlen.out]; exact hcap, R4.out.more (by omega), N4.out⟩
  by_cases h1 : v = 1
  · subst h1
    go_wp2
    go_ret
    exact ⟨A, c, [], rfl, by simp [TabLen2], O2.out.cut0, by simp, R2.out.more (by omega), N2.out⟩
  by_cases h2 : v = 2
  · subst h2
    have Hlit : Hid (OwnI 3 w2.heap.size (w2.alloc (.cells #[.int .i64 30, .int .i64 31, .int .i64 60, .int .i64 61] 3)) (some ⟨w2.heap.size, 0, none⟩) 4 lenNums) := hd
      ⟨by simp [lenNums], World.ownsRow_lit _ #[.int .i64 30, .int .i64 31, .int .i64 60, .int .i64 61] 4 (Nat.le_refl _) (by simp [maxLen]) rfl⟩
    have Ra := hd (R2.out.below ((Below.refl w2.heap.size w2).alloc (Nat.le_refl _) (.cells #[.int .i64 30, .int .i64 31, .int .i64 60, .int .i64 61] 3)) hgw)
    have Hbl : Hid (0 < lenNums.length) := hd (by simp [lenNums])
    go_wp2_with fail
    refine (num_any g (P + 1 + 1) _ 4 lenNums _ Ra.out (by omega) Hlit.out.si (Hlit.out.off hgw) Hbl.out).mono ?_
    rintro e w3 ⟨x, rfl, hx, r3, g3⟩
    have hx2 : 0 ≤ x ∧ x ≤ 61 := by
      unfold lenNums at hx
      simp only [List.mem_cons, List.not_mem_nil, or_false] at hx
      omega
    obtain ⟨hx0, hx61⟩ := hx2
    obtain ⟨n, rfl⟩ := Int.eq_ofNat_of_zero_le hx0
    have hn61 : n ≤ 61 := by omega
    have N3 := hd ((N2.out.trans (Only.below ((Below.refl w2.heap.size w2).alloc (Nat.le_refl _) _) hB2)).trans (Only.grown (B := B) g3 (by simp; omega)))
    have hB3 : B ≤ w3.heap.size := by have := g3.size; simp at this; omega
    clear hx g3
    go_wp2_with (at_make; refine wpList_make_full _ rfl _ _ 23 rfl w3.heap.size 3 i0 (.int .i64 0) 1 Try.underlying23 hi hz0 hz1 .i64 .i64 _ _ n rfl rfl rfl rfl (by rw [hz2]; omega) (by unfold maxLen; omega) (Nat.le_refl _) ?_; intro w4 hown hgrow)
    have how0 := OW.made hown (by omega)
    have bel0 : Below w3.heap.size w3 w4 := (Below.refl _ _).grown hgrow (Nat.le_refl _) (by simp)
    have O4 := hd (how0.own.low hB3)
    have R4 := hd (r3.below bel0 (by omega))
    have N4 := hd (N3.out.trans (Only.below bel0 hB3))
    have Hlen : Hid ((List.replicate n (0 : Int)).length = n) := hd (by simp)
    clear hown hgrow how0 bel0 r3
    go_wp2
    go_ret
    exact ⟨_, _, List.replicate n 0, by rw [Hlen.out]; rfl, by show (List.replicate n (0 : Int)).length ≤ 61; rw [Hlen.out]; exact hn61, O4.out, O4.out.cap, R4.out.more (by omega), N4.out⟩
  · have e0 : (v == 0) = false := by simp [h0]
    have e1 : (v == 1) = false := by simp [h1]
    have e2 : (v == 2) = false := by simp [h2]
    clear h0 h1 h2
    go_wp2
    go_ret
    exact ⟨A, c, zs, rfl, by show zs.length ≤ 61; omega, O2.out, hcap, R2.out.more (by omega), N2.out⟩

/-- What a law is given by a draw of a table. -/
def DrewT (E : TypeId) (w : World) (e : Ending) (w' : World) : Prop :=
  ∃ A c zs, e = .returned (.slice A zs.length c) ∧ zs.length ≤ 61 ∧ OwnI E w.heap.size w' A c zs ∧ zs.length ≤ c ∧ Below w.heap.size w w'

set_option maxHeartbeats 800000 in
theorem DrawTableValid_any (A : Option Addr) (c : Nat) (zs : List Int) (w : World) (h : SR w A (zs.map (Value.int .u8))) (hcap : zs.length ≤ c) (hx : ∀ x ∈ zs, 0 ≤ x ∧ x ≤ 255) :
    Calls Try.prog 66 #[.slice A zs.length c] w fun e w' => DrewT 3 w e w' := by
  have H := hd h
  have Hx := hd hx
  clear h hx
  go_enter Try.func66, Try.ntmps66
  go_wp2_with fail
  refine (l9Open_any A c zs _ H.out hcap Hx.out).mono ?_
  rintro e w1 ⟨g, rfl, hg, rd, b1⟩
  have hgw := rd.lt
  go_wp2_with fail
  refine (l2Table_any g 0 _ rd (by omega)).mono ?_
  rintro e w2 ⟨A2, c2, ys, rfl, hy, own, hcap2, rd2, gr⟩
  obtain ⟨hy1, hy14⟩ := hy
  have K2 := hd (grown_new b1 hg gr)
  have O2 := hd own
  have Gr := hd gr
  have hsz : w1.heap.size ≤ w2.heap.size := gr.size
  clear own gr
  go_wp2_with fail
  refine (l2BadTable_any w1.heap.size g 50 A2 c2 ys _ rd2 (by omega) O2.out hgw hsz hy1 hy14).mono ?_
  rintro e w3 ⟨A3, c3, xs, rfl, hx3, own3, hcap3, rd3, nn⟩
  have K3 := hd (grown_new b1 hg ((Only.grown Gr.out (Nat.le_refl _)).trans nn).grownBy)
  have O3 := hd own3
  clear own3 rd3 nn rd2
  go_wp2
  go_ret
  exact ⟨A3, c3, xs, rfl, hx3, O3.out.low b1.size, hcap3, K3.out⟩

theorem DrawDiffTable_any (A : Option Addr) (c : Nat) (zs : List Int) (w : World) (h : SR w A (zs.map (Value.int .u8))) (hcap : zs.length ≤ c) (hx : ∀ x ∈ zs, 0 ≤ x ∧ x ≤ 255) :
    Calls Try.prog 15 #[.slice A zs.length c] w fun e w' => DrewT 3 w e w' := by
  have H := hd h
  have Hx := hd hx
  clear h hx
  go_enter Try.func15, Try.ntmps15
  go_wp2_with fail
  refine (DrawTableValid_any A c zs _ H.out hcap Hx.out).mono ?_
  rintro e w1 ⟨A2, c2, ys, rfl, hy, own, hcap2, k1⟩
  have Own := hd own
  clear own
  go_wp2
  go_ret
  exact ⟨A2, c2, ys, rfl, hy, Own.out, hcap2, k1⟩

/-- What a law is given by a draw of a polynomial and two numbers. -/
def DrewNN (E : TypeId) (w : World) (e : Ending) (w' : World) : Prop :=
  ∃ A c zs v u, e = .returned (.tuple #[.slice A zs.length c, .int .i64 v, .int .i64 u]) ∧ zs.length ≤ 8 ∧ OwnI E w.heap.size w' A c zs ∧ zs.length ≤ c ∧ Below w.heap.size w w' ∧ Fits v ∧ Fits u
def countNums : List Int := [-1, 60, 61, 9223372036854775807]

set_option maxHeartbeats 800000 in
theorem DrawValuesOf_any (A : Option Addr) (c : Nat) (zs : List Int) (w : World) (h : SR w A (zs.map (Value.int .u8))) (hcap : zs.length ≤ c) (hx : ∀ x ∈ zs, 0 ≤ x ∧ x ≤ 255) :
    Calls Try.prog 121 #[.slice A zs.length c] w fun e w' => DrewNN 3 w e w' := by
  have H := hd h
  have Hx := hd hx
  clear h hx
  go_enter Try.func121, Try.ntmps121
  go_wp2_with fail
  refine (l9Open_any A c zs _ H.out hcap Hx.out).mono ?_
  rintro e w1 ⟨g, rfl, hg, rd, b1⟩
  have hgw := rd.lt
  go_wp2_with fail
  refine (l2Open_any g 0 _ rd (by omega)).mono ?_
  rintro e w2 ⟨A2, c2, ys, rfl, hy, own, hcap2, rd2, gr⟩
  have K2 := hd (grown_new b1 hg gr)
  have O2 := hd own
  have hsz : w1.heap.size ≤ w2.heap.size := gr.size
  clear own gr
  go_wp2_with fail
  refine (l2Number_any g _ _ rd2 (by omega)).mono ?_
  rintro e w3 ⟨v, rfl, hv, rd3, g3⟩
  have K3 := hd (grown_new K2.out hg g3)
  have O3 := hd (O2.out.keep_lo g3 (fun r hr => by simp at hr; omega))
  have hsz3 : w1.heap.size ≤ w3.heap.size := Nat.le_trans hsz g3.size
  have Hv := hd hv
  clear g3 hv rd2
  go_wp2_with fail
  refine (pick_any g _ 16 _ rd3 (by omega)).mono ?_
  rintro e w4 ⟨u, rfl, hu, rd4, g4⟩
  obtain ⟨hu0, hu1⟩ := hu
  have hu2 := hu1 (by omega)
  have K4 := hd (grown_new K3.out hg g4)
  have O4 := hd (O3.out.keep_lo g4 (fun r hr => by simp at hr; omega))
  have hsz4 : w1.heap.size ≤ w4.heap.size := Nat.le_trans hsz3 g4.size
  clear g4 rd3 hu1
  go_wp2_with fail
  refine (pick_any g _ 16 _ rd4 (by omega)).mono ?_
  rintro e w5 ⟨s, rfl, hs, rd5, g5⟩
  have K5 := hd (grown_new K4.out hg g5)
  have O5 := hd (O4.out.keep_lo g5 (fun r hr => by simp at hr; omega))
  have hsz5 : w1.heap.size ≤ w5.heap.size := Nat.le_trans hsz4 g5.size
  clear g5 rd4 hs
  by_cases h0 : s = 0
  · subst h0
    have Hlit : Hid (OwnI 3 w5.heap.size (w5.alloc (.cells #[.int .i64 (-1), .int .i64 60, .int .i64 61, .int .i64 9223372036854775807] 3)) (some ⟨w5.heap.size, 0, none⟩) 4 countNums) := hd
      ⟨by simp [countNums], World.ownsRow_lit _ #[.int .i64 (-1), .int .i64 60, .int .i64 61, .int .i64 9223372036854775807] 4 (Nat.le_refl _) (by simp [maxLen]) rfl⟩
    have Ra := hd (rd5.below ((Below.refl w5.heap.size w5).alloc (Nat.le_refl _) (.cells #[.int .i64 (-1), .int .i64 60, .int .i64 61, .int .i64 9223372036854775807] 3)) (by omega))
    have Hbl : Hid (0 < countNums.length) := hd (by simp [countNums])
    clear rd5
    go_wp2_with fail
    refine (num_any g _ _ 4 countNums _ Ra.out (by omega) Hlit.out.si (Hlit.out.off (by omega)) Hbl.out).mono ?_
    rintro e w6 ⟨x, rfl, hx, rd6, g6⟩
    have Hxx : Hid (Fits x) := hd (by
      unfold countNums at hx
      simp only [List.mem_cons, List.not_mem_nil, or_false] at hx
      unfold Fits
      omega)
    have K6 := hd (grown_new (K5.out.alloc K5.out.size _) hg g6)
    have O6 := hd ((O5.out.alloc _).keep_lo g6 (fun r hr => by simp at hr; omega))
    clear hx rd6 g6
    go_wp2
    go_ret3
    exact ⟨A2, c2, ys, v, x, rfl, hy, O6.out.low b1.size, hcap2, K6.out, Hv.out, Hxx.out⟩
  · have e0 : (s == 0) = false := by simp [h0]
    clear h0 rd5
    go_wp2
    go_ret3
    exact ⟨A2, c2, ys, v, u, rfl, hy, O5.out.low b1.size, hcap2, K5.out, Hv.out, ⟨by omega, by omega⟩⟩

end Go.Proofs.Ytkmblobfamhoiaa
