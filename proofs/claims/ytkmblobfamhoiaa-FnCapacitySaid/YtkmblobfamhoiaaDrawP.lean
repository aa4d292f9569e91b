/- Contracts of the draws of an engine that runs, of what a capacity is asked of, of an engine that is read. -/
import Derived.Test.YtkmblobfamhoiaaGrI
import Derived.Test.YtkmblobfamhoiaaEngM
namespace Go.Proofs.Ytkmblobfamhoiaa
open Go.RowKit
set_option maxRecDepth 4000

def runNums : List Int := [-1, 60, 61, 9223372036854775807]
def countNums : List Int := [-1, 60, 61, 9223372036854775807]

set_option maxHeartbeats 3200000 in
theorem DrawRunEngine_any (A : Option Addr) (c : Nat) (zs : List Int) (w : World) (h : SR w A (zs.map (Value.int .u8))) (hcap : zs.length ≤ c) (hx : ∀ x ∈ zs, 0 ≤ x ∧ x ≤ 255) :
    Calls Try.prog 63 #[.slice A zs.length c] w fun e w' => DrewEN w e w' := by
  have Ca := hd (Cl.new w (.slice none 0 0) 36)
  have B0 := hd ((Below.refl w.heap.size w).alloc (Nat.le_refl _) (.cells #[.slice none 0 0] 36))
  have H := hd (h.below B0.out)
  have Hx := hd hx
  have hsz0 : (w.alloc (.cells #[.slice none 0 0] 36)).heap.size = w.heap.size + 1 := by simp
  clear h hx
  go_enter Try.func63, Try.ntmps63
  go_wp2_with fail
  refine (l9Open_any A c zs _ H.out hcap Hx.out).mono ?_
  rintro e w1 ⟨g, rfl, hg, rd, b1⟩
  rw [hsz0] at hg
  have Rd := hd rd
  have hgw1 : g < w1.heap.size := rd.lt
  have Ca1 := hd (Ca.out.below b1)
  have B1 := hd (B0.out.trans (b1.mono (by rw [hsz0]; omega)))
  have hsz1 : w.heap.size + 1 ≤ w1.heap.size := by have := b1.size; rw [hsz0] at this; exact this
  clear rd b1 hsz0
  go_wp2_with fail
  refine (l3Open_any g 0 _ Rd.out (by omega)).mono ?_
  rintro e w2 ⟨A2, c2, ys, rfl, hy, own2, rd2, gr⟩
  have Ca2 := hd ((Ca1.out.other gr (by omega)).alloc (.cells #[.slice A2 ys.length c2] 36))
  have hgw := rd2.lt
  have Ce := hd (Cl.new w2 (.slice A2 ys.length c2) 36)
  have hsz2 : w1.heap.size ≤ w2.heap.size := gr.size
  have Bn := hd ((Below.refl w2.heap.size w2).alloc (Nat.le_refl _) (.cells #[.slice A2 ys.length c2] 36))
  have Rd2 := hd (rd2.below Bn.out hgw)
  have Own2 := hd (own2.alloc (.cells #[.slice A2 ys.length c2] 36))
  have B2 := hd ((grown_new B1.out (show w.heap.size ≤ g by omega) gr).alloc (by omega) (.cells #[.slice A2 ys.length c2] 36))
  have Hy := hd hy
  have hszn : (w2.alloc (.cells #[.slice A2 ys.length c2] 36)).heap.size = w2.heap.size + 1 := by simp
  clear own2 rd2 gr hy
  go_wp2_with fail
  refine (pick_any g _ 12 _ Rd2.out (by omega)).mono ?_
  rintro e w3 ⟨v, rfl, hv, r3, g3⟩
  have hsz3 : w2.heap.size + 1 ≤ w3.heap.size := by have := g3.size; rw [hszn] at this; exact this
  have Ca3 := hd (Ca2.out.other g3 (by omega))
  have Ce3 := hd (Ce.out.other g3 (by omega))
  have Own3 := hd (Own2.out.keep_lo g3 (fun r hr => by simp at hr; omega))
  have B3 := hd (B2.out.grown g3 (by rw [hszn]; omega) (fun r hr => by simp at hr; omega))
  have Rd3 := hd r3
  have hg3 := r3.lt
  clear hv r3 g3 hszn
  obtain ⟨c1, f1, -⟩ := Ca3.out
  obtain ⟨q1, q2, -⟩ := Ce3.out
  by_cases h0 : v = 0
  · subst h0
    have Hlit : Hid (OwnI 3 w3.heap.size (w3.drew.alloc (.cells #[.int .i64 (-1), .int .i64 60, .int .i64 61, .int .i64 9223372036854775807] 3)) (some ⟨w3.heap.size, 0, none⟩) 4 runNums) := hd
      ⟨by simp [runNums], World.ownsRow_lit w3.drew #[.int .i64 (-1), .int .i64 60, .int .i64 61, .int .i64 9223372036854775807] 4 (Nat.le_refl _) (by simp [maxLen]) rfl⟩
    have Bl := hd ((Below.refl w3.heap.size w3).drew.alloc (Nat.le_refl _) (.cells #[.int .i64 (-1), .int .i64 60, .int .i64 61, .int .i64 9223372036854775807] 3))
    have Ra := hd (Rd3.out.below Bl.out hg3)
    have Ca4 := hd (Ca3.out.below Bl.out)
    have Ce4 := hd (Ce3.out.below Bl.out)
    have Own4 := hd (Own3.out.below Bl.out)
    have B4 := hd (B3.out.trans (Bl.out.mono (by omega)))
    have Hbl : Hid (0 < runNums.length) := hd (by simp [runNums])
    have hne : ¬ w2.heap.size = w3.heap.size := by omega
    have hq := (Ce3.out.alloc (.cells #[.int .i64 (-1), .int .i64 60, .int .i64 61, .int .i64 9223372036854775807] 3)).1
    go_wp2
    go_region_law ((go_simp; go_at_call 93; refine (num_any g _ _ 4 runNums _ Ra.out (by omega) Hlit.out.si (Hlit.out.off hg3) Hbl.out).mono ?_; rintro e w4 ⟨x, rfl, hx, r4, g4⟩; have Ca5 := hd (Ca4.out.other g4 (by omega)); have Ce5 := hd (Ce4.out.other g4 (by omega)); have Own5 := hd (Own4.out.keep_lo g4 (fun r hr => by simp at hr; omega)); have B5 := hd (B4.out.grown g4 (by simp; omega) (fun r hr => by simp at hr; omega)); have Hx2 := hd hx; clear hx r4 g4 hq c1 f1 q1 q2; obtain ⟨c1, f1, -⟩ := Ca5.out; obtain ⟨q1, q2, -⟩ := Ce5.out))
    all_goals
      have Hi : Hid (I64 x) := hd (by
        have hx := Hx2.out
        unfold runNums at hx
        simp only [List.mem_cons, List.not_mem_nil, or_false] at hx
        unfold I64
        omega)
      have Hf : Hid (DrewEN w (.returned (.tuple #[.agg #[.slice A2 ys.length c2], .int .i64 x])) (w4.setCell ⟨w.heap.size, 0, none⟩ (.slice A2 ys.length c2))) := hd
        ⟨A2, c2, ys, x, rfl, Hy.out, (Own5.out.keep_lo (grown_set w4 ⟨w.heap.size, 0, none⟩ (.slice A2 ys.length c2)) (fun r hr => by simp at hr; omega)).low (by omega), B5.out.setCell (p := ⟨w.heap.size, 0, none⟩) (Nat.le_refl _) _, Hi.out⟩
      go_wp2
      exact bodyPost_ret (v := .tuple #[.agg #[.slice A2 ys.length c2], .int .i64 x]) (by simp [results, Try.results63, c1, go_sem]) rfl Hf.out
  · have e0 : (v == 0) = false := by simp [h0]
    clear h0
    go_wp2
    go_region_law ((go_simp; go_at_call 87; refine (pick_any g _ 20 w3.drew Rd3.out (by omega)).mono ?_; rintro e w4 ⟨x, rfl, hx, r4, g4⟩; have Ca5 := hd (Ca3.out.drew.other g4 (by omega)); have Ce5 := hd (Ce3.out.drew.other g4 (by omega)); have Own5 := hd (Own3.out.drew.keep_lo g4 (fun r hr => by simp at hr; omega)); have B5 := hd (B3.out.drew.grown g4 (show w.heap.size ≤ w3.heap.size by omega) (fun r hr => by simp at hr; omega)); obtain ⟨hx0, hx1⟩ := hx; have hx2 := hx1 (by omega); clear hx1 r4 g4 c1 f1 q1 q2; obtain ⟨c1, f1, -⟩ := Ca5.out; obtain ⟨q1, q2, -⟩ := Ce5.out))
    all_goals
      have Hf : Hid (DrewEN w (.returned (.tuple #[.agg #[.slice A2 ys.length c2], .int .i64 x])) (w4.setCell ⟨w.heap.size, 0, none⟩ (.slice A2 ys.length c2))) := hd
        ⟨A2, c2, ys, x, rfl, Hy.out, (Own5.out.keep_lo (grown_set w4 ⟨w.heap.size, 0, none⟩ (.slice A2 ys.length c2)) (fun r hr => by simp at hr; omega)).low (by omega), B5.out.setCell (p := ⟨w.heap.size, 0, none⟩) (Nat.le_refl _) _, ⟨by omega, by omega⟩⟩
      go_wp2
      exact bodyPost_ret (v := .tuple #[.agg #[.slice A2 ys.length c2], .int .i64 x]) (by simp [results, Try.results63, c1, go_sem]) rfl Hf.out


theorem DrawRunHalves_any (A : Option Addr) (c : Nat) (zs : List Int) (w : World) (h : SR w A (zs.map (Value.int .u8))) (hcap : zs.length ≤ c) (hx : ∀ x ∈ zs, 0 ≤ x ∧ x ≤ 255) :
    Calls Try.prog 55 #[.slice A zs.length c] w fun e w' => DrewEN w e w' := by
  have H := hd h
  have Hx := hd hx
  have Ca := hd (Cl.new w (.slice none 0 0) 36)
  have B0 := hd ((Below.refl w.heap.size w).alloc (Nat.le_refl _) (.cells #[.slice none 0 0] 36))
  have hsz0 : (w.alloc (.cells #[.slice none 0 0] 36)).heap.size = w.heap.size + 1 := by simp
  clear h hx
  go_enter Try.func55, Try.ntmps55
  go_wp2_with fail
  refine (DrawRunEngine_any A c zs _ (H.out.below B0.out) hcap Hx.out).mono ?_
  rintro e w1 ⟨A2, c2, ys, v, rfl, hy, own, b1, hv⟩
  have Hy := hd hy
  have Hv := hd hv
  have Ca1 := hd (Ca.out.below b1)
  obtain ⟨c1, f1, -⟩ := Ca1.out
  rw [hsz0] at own
  have Hf : Hid (DrewEN w (.returned (.tuple #[.agg #[.slice A2 ys.length c2], .int .i64 v])) (w1.setCell ⟨w.heap.size, 0, none⟩ (.slice A2 ys.length c2))) := hd
    ⟨A2, c2, ys, v, rfl, Hy.out, (own.keep_lo (grown_set w1 ⟨w.heap.size, 0, none⟩ (.slice A2 ys.length c2)) (fun r hr => by simp at hr; omega)).low (by omega), (B0.out.trans (b1.mono (by rw [hsz0]; omega))).setCell (p := ⟨w.heap.size, 0, none⟩) (Nat.le_refl _) _, Hv.out⟩
  clear own b1 hy hv hsz0
  go_wp2
  exact bodyPost_ret (v := .tuple #[.agg #[.slice A2 ys.length c2], .int .i64 v]) (by simp [results, Try.results55, c1, go_sem]) rfl Hf.out

set_option maxHeartbeats 800000 in
theorem DrawValuesOf_any (A : Option Addr) (c : Nat) (zs : List Int) (w : World) (h : SR w A (zs.map (Value.int .u8))) (hcap : zs.length ≤ c) (hx : ∀ x ∈ zs, 0 ≤ x ∧ x ≤ 255) :
    Calls Try.prog 121 #[.slice A zs.length c] w fun e w' => DrewPNN w e w' := by
  have H := hd h
  have Hx := hd hx
  clear h hx
  go_enter Try.func121, Try.ntmps121
  go_wp2_with fail
  refine (l9Open_any A c zs _ H.out hcap Hx.out).mono ?_
  rintro e w1 ⟨g, rfl, hg, rd, b1⟩
  have hgw := rd.lt
  go_wp2_with fail
  refine (l2Open_any g 0 _ rd (by omega)).mono ?_
  rintro e w2 ⟨A2, c2, ys, rfl, hy, own, hcap2, rd2, gr⟩
  have K2 := hd (grown_new b1 hg gr)
  have O2 := hd own
  have hsz : w1.heap.size ≤ w2.heap.size := gr.size
  clear own gr
  go_wp2_with fail
  refine (l2Number_any g _ _ rd2 (by omega)).mono ?_
  rintro e w3 ⟨v, rfl, hv, rd3, g3⟩
  have K3 := hd (grown_new K2.out hg g3)
  have O3 := hd (O2.out.keep_lo g3 (fun r hr => by simp at hr; omega))
  have hsz3 : w1.heap.size ≤ w3.heap.size := Nat.le_trans hsz g3.size
  have Hv := hd hv
  clear g3 hv rd2
  go_wp2_with fail
  refine (pick_any g _ 16 _ rd3 (by omega)).mono ?_
  rintro e w4 ⟨u, rfl, hu, rd4, g4⟩
  obtain ⟨hu0, hu1⟩ := hu
  have hu2 := hu1 (by omega)
  have K4 := hd (grown_new K3.out hg g4)
  have O4 := hd (O3.out.keep_lo g4 (fun r hr => by simp at hr; omega))
  have hsz4 : w1.heap.size ≤ w4.heap.size := Nat.le_trans hsz3 g4.size
  clear g4 rd3 hu1
  go_wp2_with fail
  refine (pick_any g _ 16 _ rd4 (by omega)).mono ?_
  rintro e w5 ⟨s, rfl, hs, rd5, g5⟩
  have K5 := hd (grown_new K4.out hg g5)
  have O5 := hd (O4.out.keep_lo g5 (fun r hr => by simp at hr; omega))
  have hsz5 : w1.heap.size ≤ w5.heap.size := Nat.le_trans hsz4 g5.size
  clear g5 rd4 hs
  by_cases h0 : s = 0
  · subst h0
    have Hlit : Hid (OwnI 3 w5.heap.size (w5.alloc (.cells #[.int .i64 (-1), .int .i64 60, .int .i64 61, .int .i64 9223372036854775807] 3)) (some ⟨w5.heap.size, 0, none⟩) 4 countNums) := hd
      ⟨by simp [countNums], World.ownsRow_lit _ #[.int .i64 (-1), .int .i64 60, .int .i64 61, .int .i64 9223372036854775807] 4 (Nat.le_refl _) (by simp [maxLen]) rfl⟩
    have Ra := hd (rd5.below ((Below.refl w5.heap.size w5).alloc (Nat.le_refl _) (.cells #[.int .i64 (-1), .int .i64 60, .int .i64 61, .int .i64 9223372036854775807] 3)) (by omega))
    have Hbl : Hid (0 < countNums.length) := hd (by simp [countNums])
    clear rd5
    go_wp2_with fail
    refine (num_any g _ _ 4 countNums _ Ra.out (by omega) Hlit.out.si (Hlit.out.off (by omega)) Hbl.out).mono ?_
    rintro e w6 ⟨x, rfl, hx, rd6, g6⟩
    have Hxx : Hid (Fits x) := hd (by
      unfold countNums at hx
      simp only [List.mem_cons, List.not_mem_nil, or_false] at hx
      unfold Fits
      omega)
    have K6 := hd (grown_new (K5.out.alloc K5.out.size _) hg g6)
    have O6 := hd ((O5.out.alloc _).keep_lo g6 (fun r hr => by simp at hr; omega))
    clear hx rd6 g6
    go_wp2
    go_ret3
    exact ⟨A2, c2, ys, v, x, rfl, hy, O6.out.low b1.size, hcap2, K6.out, Hv.out, Hxx.out⟩
  · have e0 : (s == 0) = false := by simp [h0]
    clear h0 rd5
    go_wp2
    go_ret3
    exact ⟨A2, c2, ys, v, u, rfl, hy, O5.out.low b1.size, hcap2, K5.out, Hv.out, ⟨by omega, by omega⟩⟩


/-- What a law is given by a draw of a polynomial and three numbers. -/
def DrewPNNN (w : World) (e : Ending) (w' : World) : Prop :=
  ∃ A c zs v u m, e = .returned (.tuple #[.slice A zs.length c, .int .i64 v, .int .i64 u, .int .i64 m]) ∧ zs.length ≤ 8 ∧ OwnI 3 w.heap.size w' A c zs ∧ zs.length ≤ c ∧ Below w.heap.size w w' ∧ Fits v ∧ Fits u ∧ Fits m

set_option maxHeartbeats 800000 in
theorem DrawCapacityOf_any (A : Option Addr) (c : Nat) (zs : List Int) (w : World) (h : SR w A (zs.map (Value.int .u8))) (hbig : zs.length ≤ 1048576) (hcap : zs.length ≤ c) (hx : ∀ x ∈ zs, 0 ≤ x ∧ x ≤ 255) :
    Calls Try.prog 57 #[.slice A zs.length c] w fun e w' => DrewPNNN w e w' := by
  have H := hd h
  have Hx := hd hx
  clear h hx
  go_enter Try.func57, Try.ntmps57
  go_wp2_with fail
  refine (l9Open_any A c zs _ H.out hcap Hx.out).mono ?_
  rintro e w1 ⟨g, rfl, hg, rd, b1⟩
  have Rd := hd rd
  have hgw := rd.lt
  have H1 := hd (H.out.below b1)
  have B1 := hd b1
  have hsz1 : w.heap.size ≤ w1.heap.size := b1.size
  clear rd b1
  go_wp2_with fail
  refine (DrawValuesOf_any A c zs _ H1.out hcap Hx.out).mono ?_
  rintro e w2 ⟨A2, c2, ys, v, u, rfl, hy, own, hcap2, b2, hv, hu⟩
  have Rd2 := hd (Rd.out.below b2 hgw)
  have B2 := hd (B1.out.trans (b2.mono hsz1))
  have Own := hd own
  have Hv := hd hv
  have Hu := hd hu
  have hg2 := Rd2.out.lt
  have hsz2 : w1.heap.size ≤ w2.heap.size := b2.size
  clear b2 own hv hu
  by_cases hpar : (zs.length : Int) % 2 = 0
  · go_wp2_with fail
    refine (pick_any g _ 40 _ Rd2.out (by omega)).mono ?_
    rintro e w3 ⟨m, rfl, hm, rd3, g3⟩
    obtain ⟨hm0, hm1⟩ := hm
    have hm2 := hm1 (by omega)
    have e3 : IntKind.i64.wrap (20 + m) = 20 + m := IntWalk.i64_in _ (by omega)
    have Hm : Hid (Fits (20 + m)) := hd ⟨by omega, by omega⟩
    have Own3 := hd (Own.out.keep_lo g3 (fun r hr => by simp at hr; omega))
    have B3 := hd (grown_new B2.out hg g3)
    have Rd3 := hd rd3
    have hsz3 : w2.heap.size ≤ w3.heap.size := g3.size
    clear rd3 g3 hm1
    go_wp2_with fail
    refine (l1Wide_any g _ _ Rd3.out (by omega)).mono ?_
    rintro e w4 ⟨x, rfl, hx4, rd4, g4⟩
    have Own4 := hd ((Own3.out.keep_lo g4 (fun r hr => by simp at hr; omega)).low hsz1)
    have B4 := hd (grown_new B3.out hg g4)
    have Hx4 := hd hx4
    clear rd4 g4 hx4
    go_wp2
    exact bodyPost_ret (v := .tuple #[.slice A2 ys.length c2, .int .i64 v, .int .i64 x, .int .i64 (20 + m)]) (by simp [results, Try.results57, go_sem]) rfl ⟨A2, c2, ys, v, x, 20 + m, rfl, hy, Own4.out, hcap2, B4.out, Hv.out, Hx4.out, Hm.out⟩
  · go_wp2_with fail
    refine (l1Wide_any g _ _ Rd2.out (by omega)).mono ?_
    rintro e w4 ⟨x, rfl, hx4, rd4, g4⟩
    have Own4 := hd ((Own.out.keep_lo g4 (fun r hr => by simp at hr; omega)).low hsz1)
    have B4 := hd (grown_new B2.out hg g4)
    have Hx4 := hd hx4
    clear rd4 g4 hx4
    go_wp2
    exact bodyPost_ret (v := .tuple #[.slice A2 ys.length c2, .int .i64 v, .int .i64 x, .int .i64 u]) (by simp [results, Try.results57, go_sem]) rfl ⟨A2, c2, ys, v, x, u, rfl, hy, Own4.out, hcap2, B4.out, Hv.out, Hx4.out, Hu.out⟩

end Go.Proofs.Ytkmblobfamhoiaa
