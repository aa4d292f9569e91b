/- The contract of the draw of an engine and a number of turns. -/
import Derived.Test.YtcalheieakppmaaDrawL
namespace Go.Proofs.Ytcalheieakppmaa
open Go.RowKit
set_option maxRecDepth 4000

def turnNums : List Int := [300, 301, -300, -301, 9223372036854775807, -9223372036854775808]
def I64 (v : Int) : Prop := -9223372036854775808 ≤ v ∧ v ≤ 9223372036854775807
/-- What a law is given by a draw of one engine and a number. -/
def DrewEN (w : World) (e : Ending) (w' : World) : Prop :=
  ∃ A c cs v, e = .returned (.tuple #[.agg #[.slice A cs.length c], .int .i64 v]) ∧ (cs.length ≤ 8 ∧ Sizes cs 200) ∧ OwnS 9 w.heap.size w' A c cs ∧ Below w.heap.size w w' ∧ I64 v

set_option maxHeartbeats 3200000 in
theorem DrawTurnMany_any (A : Option Addr) (c : Nat) (zs : List Int) (w : World) (h : SR w A (zs.map (Value.int .u8))) (hcap : zs.length ≤ c) (hx : ∀ x ∈ zs, 0 ≤ x ∧ x ≤ 255) :
    Calls Try.prog 64 #[.slice A zs.length c] w fun e w' => DrewEN w e w' := by
  have Ca := hd (Cl.new w (.slice none 0 0) 31)
  have B0 := hd ((Below.refl w.heap.size w).alloc (Nat.le_refl _) (.cells #[.slice none 0 0] 31))
  have H := hd (h.below B0.out)
  have Hx := hd hx
  have hsz0 : (w.alloc (.cells #[.slice none 0 0] 31)).heap.size = w.heap.size + 1 := by simp
  clear h hx
  go_enter Try.func64, Try.ntmps64
  go_wp2_with fail
  refine (l9Open_any A c zs _ H.out hcap Hx.out).mono ?_
  rintro e w1 ⟨g, rfl, hg, rd, b1⟩
  rw [hsz0] at hg
  have Rd := hd rd
  have hgw1 : g < w1.heap.size := rd.lt
  have Ca1 := hd (Ca.out.below b1)
  have B1 := hd (B0.out.trans (b1.mono (by rw [hsz0]; omega)))
  have hsz1 : w.heap.size + 1 ≤ w1.heap.size := by have := b1.size; rw [hsz0] at this; exact this
  clear rd b1 hsz0
  go_wp2_with fail
  refine (l3Open_any g 0 _ Rd.out (by omega)).mono ?_
  rintro e w2 ⟨A2, c2, ys, rfl, hy, own2, rd2, gr⟩
  have Ca2 := hd ((Ca1.out.other gr (by omega)).alloc (.cells #[.slice A2 ys.length c2] 31))
  have hgw := rd2.lt
  have Ce := hd (Cl.new w2 (.slice A2 ys.length c2) 31)
  have hsz2 : w1.heap.size ≤ w2.heap.size := gr.size
  have Bn := hd ((Below.refl w2.heap.size w2).alloc (Nat.le_refl _) (.cells #[.slice A2 ys.length c2] 31))
  have Rd2 := hd (rd2.below Bn.out hgw)
  have Own2 := hd (own2.alloc (.cells #[.slice A2 ys.length c2] 31))
  have B2 := hd ((grown_new B1.out (show w.heap.size ≤ g by omega) gr).alloc (by omega) (.cells #[.slice A2 ys.length c2] 31))
  have Hy := hd hy
  have hszn : (w2.alloc (.cells #[.slice A2 ys.length c2] 31)).heap.size = w2.heap.size + 1 := by simp
  clear own2 rd2 gr hy
  go_wp2_with fail
  refine (pick_any g _ 12 _ Rd2.out (by omega)).mono ?_
  rintro e w3 ⟨v, rfl, hv, r3, g3⟩
  have hsz3 : w2.heap.size + 1 ≤ w3.heap.size := by have := g3.size; rw [hszn] at this; exact this
  have Ca3 := hd (Ca2.out.other g3 (by omega))
  have Ce3 := hd (Ce.out.other g3 (by omega))
  have Own3 := hd (Own2.out.keep_lo g3 (fun r hr => by simp at hr; omega))
  have B3 := hd (B2.out.grown g3 (by rw [hszn]; omega) (fun r hr => by simp at hr; omega))
  have Rd3 := hd r3
  have hg3 := r3.lt
  clear hv r3 g3 hszn
  obtain ⟨c1, f1, -⟩ := Ca3.out
  obtain ⟨q1, q2, -⟩ := Ce3.out
  by_cases h0 : v = 0
  · subst h0
    have Hlit : Hid (OwnI 3 w3.heap.size (w3.drew.alloc (.cells #[.int .i64 300, .int .i64 301, .int .i64 (-300), .int .i64 (-301), .int .i64 9223372036854775807, .int .i64 (-9223372036854775808)] 3)) (some ⟨w3.heap.size, 0, none⟩) 6 turnNums) := hd
      ⟨by simp [turnNums], World.ownsRow_lit w3.drew #[.int .i64 300, .int .i64 301, .int .i64 (-300), .int .i64 (-301), .int .i64 9223372036854775807, .int .i64 (-9223372036854775808)] 6 (Nat.le_refl _) (by simp [maxLen]) rfl⟩
    have Bl := hd ((Below.refl w3.heap.size w3).drew.alloc (Nat.le_refl _) (.cells #[.int .i64 300, .int .i64 301, .int .i64 (-300), .int .i64 (-301), .int .i64 9223372036854775807, .int .i64 (-9223372036854775808)] 3))
    have Ra := hd (Rd3.out.below Bl.out hg3)
    have Ca4 := hd (Ca3.out.below Bl.out)
    have Ce4 := hd (Ce3.out.below Bl.out)
    have Own4 := hd (Own3.out.below Bl.out)
    have B4 := hd (B3.out.trans (Bl.out.mono (by omega)))
    have Hbl : Hid (0 < turnNums.length) := hd (by simp [turnNums])
    have hne : ¬ w2.heap.size = w3.heap.size := by omega
    have hq := (Ce3.out.alloc (.cells #[.int .i64 300, .int .i64 301, .int .i64 (-300), .int .i64 (-301), .int .i64 9223372036854775807, .int .i64 (-9223372036854775808)] 3)).1
    go_wp2
    go_region_law ((go_simp; go_at_call 127; refine (num_any g _ _ 6 turnNums _ Ra.out (by omega) Hlit.out.si (Hlit.out.off hg3) Hbl.out).mono ?_; rintro e w4 ⟨x, rfl, hx, r4, g4⟩; have Ca5 := hd (Ca4.out.other g4 (by omega)); have Ce5 := hd (Ce4.out.other g4 (by omega)); have Own5 := hd (Own4.out.keep_lo g4 (fun r hr => by simp at hr; omega)); have B5 := hd (B4.out.grown g4 (by simp; omega) (fun r hr => by simp at hr; omega)); have Hx2 := hd hx; clear hx r4 g4 hq c1 f1 q1 q2; obtain ⟨c1, f1, -⟩ := Ca5.out; obtain ⟨q1, q2, -⟩ := Ce5.out))
    all_goals
      have Hi : Hid (I64 x) := hd (by
        have hx := Hx2.out
        unfold turnNums at hx
        simp only [List.mem_cons, List.not_mem_nil, or_false] at hx
        unfold I64
        omega)
      have Hf : Hid (DrewEN w (.returned (.tuple #[.agg #[.slice A2 ys.length c2], .int .i64 x])) (w4.setCell ⟨w.heap.size, 0, none⟩ (.slice A2 ys.length c2))) := hd
        ⟨A2, c2, ys, x, rfl, Hy.out, (Own5.out.keep_lo (grown_set w4 ⟨w.heap.size, 0, none⟩ (.slice A2 ys.length c2)) (fun r hr => by simp at hr; omega)).low (by omega), B5.out.setCell (p := ⟨w.heap.size, 0, none⟩) (Nat.le_refl _) _, Hi.out⟩
      go_wp2
      exact bodyPost_ret (v := .tuple #[.agg #[.slice A2 ys.length c2], .int .i64 x]) (by simp [results, Try.results64, c1, go_sem]) rfl Hf.out
  · have e0 : (v == 0) = false := by simp [h0]
    clear h0
    go_wp2
    go_region_law ((go_simp; go_at_call 126; refine (pick_any g _ 50 w3.drew Rd3.out (by omega)).mono ?_; rintro e w4 ⟨x, rfl, hx, r4, g4⟩; have Ca5 := hd (Ca3.out.drew.other g4 (by omega)); have Ce5 := hd (Ce3.out.drew.other g4 (by omega)); have Own5 := hd (Own3.out.drew.keep_lo g4 (fun r hr => by simp at hr; omega)); have B5 := hd (B3.out.drew.grown g4 (show w.heap.size ≤ w3.heap.size by omega) (fun r hr => by simp at hr; omega)); obtain ⟨hx0, hx1⟩ := hx; have hx2 := hx1 (by omega); clear hx1 r4 g4 c1 f1 q1 q2; obtain ⟨c1, f1, -⟩ := Ca5.out; obtain ⟨q1, q2, -⟩ := Ce5.out))
    all_goals
      have Hf : Hid (DrewEN w (.returned (.tuple #[.agg #[.slice A2 ys.length c2], .int .i64 (x - 20)])) (w4.setCell ⟨w.heap.size, 0, none⟩ (.slice A2 ys.length c2))) := hd
        ⟨A2, c2, ys, x - 20, rfl, Hy.out, (Own5.out.keep_lo (grown_set w4 ⟨w.heap.size, 0, none⟩ (.slice A2 ys.length c2)) (fun r hr => by simp at hr; omega)).low (by omega), B5.out.setCell (p := ⟨w.heap.size, 0, none⟩) (Nat.le_refl _) _, ⟨by omega, by omega⟩⟩
      have e9 : IntKind.i64.wrap (x - 20) = x - 20 := IntWalk.i64_in _ (by omega)
      go_wp2
      exact bodyPost_ret (v := .tuple #[.agg #[.slice A2 ys.length c2], .int .i64 (x - 20)]) (by simp [results, Try.results64, c1, e9, go_sem]) rfl Hf.out

end Go.Proofs.Ytcalheieakppmaa
