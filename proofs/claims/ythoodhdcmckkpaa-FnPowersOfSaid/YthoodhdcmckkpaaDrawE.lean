/- Contracts of the draws of an argument, and of a polynomial and an argument. -/
import Derived.Test.YthoodhdcmckkpaaDrawD
namespace Go.Proofs.Ythoodhdcmckkpaa
open Go.RowKit

/-- A number that fits. -/
def Fits (v : Int) : Prop := -9223372036854775808 ≤ v ∧ v ≤ 9223372036854775807
def numNums : List Int := [200, 201, -200, -201, 9223372036854775807, -9223372036854775808]

set_option maxHeartbeats 800000 in
theorem l2Number_any (g : Nat) (P : Int) (w : World) (h : Rdr w g P) (hP : P ≤ 1000) :
    Calls Try.prog 96 #[.pointer (some ⟨g, 0, none⟩)] w fun e w' => Picked Fits g (P + 2) w e w' := by
  have H := hd h
  clear h
  go_enter Try.func96, Try.ntmps96
  go_wp2_with fail
  refine (pick_any g P 12 _ H.out (by omega)).mono ?_
  rintro e w1 ⟨v, rfl, hv, r1, g1⟩
  obtain ⟨hv0, hv1⟩ := hv
  have G1 := hd g1
  have R1 := hd r1
  have hgw := r1.lt
  clear hv1 g1 r1
  by_cases h0 : v = 0
  · subst h0
    have Hlit : Hid (OwnI 3 w1.heap.size (w1.alloc (.cells #[.int .i64 200, .int .i64 201, .int .i64 (-200), .int .i64 (-201), .int .i64 9223372036854775807, .int .i64 (-9223372036854775808)] 3)) (some ⟨w1.heap.size, 0, none⟩) 6 numNums) := hd
      ⟨by simp [numNums], World.ownsRow_lit _ #[.int .i64 200, .int .i64 201, .int .i64 (-200), .int .i64 (-201), .int .i64 9223372036854775807, .int .i64 (-9223372036854775808)] 6 (Nat.le_refl _) (by simp [maxLen]) rfl⟩
    have Ra := hd (R1.out.below ((Below.refl w1.heap.size w1).alloc (Nat.le_refl _) (.cells #[.int .i64 200, .int .i64 201, .int .i64 (-200), .int .i64 (-201), .int .i64 9223372036854775807, .int .i64 (-9223372036854775808)] 3)) hgw)
    have Hbl : Hid (0 < numNums.length) := hd (by simp [numNums])
    go_wp2_with fail
    refine (num_any g (P + 1) _ 6 numNums _ Ra.out (by omega) Hlit.out.si (Hlit.out.off hgw) Hbl.out).mono ?_
    rintro e w2 ⟨x, rfl, hx, r2, g2⟩
    have Hx : Hid (Fits x) := hd (by
      unfold numNums at hx
      simp only [List.mem_cons, List.not_mem_nil, or_false] at hx
      unfold Fits
      omega)
    have R2 := hd (r2.more (show P + 1 + 1 ≤ P + 2 by omega))
    have G2 := hd (only_trans (only_alloc G1.out _) g2)
    clear hx r2 g2
    go_wp2
    go_ret
    exact ⟨x, rfl, Hx.out, R2.out, G2.out⟩
  · have e0 : (v == 0) = false := by simp [h0]
    clear h0
    go_wp2_with fail
    refine (pick_any g (P + 1) 60 _ R1.out (by omega)).mono ?_
    rintro e w2 ⟨x, rfl, hx, r2, g2⟩
    obtain ⟨hx0, hx1⟩ := hx
    have hx2 := hx1 (by omega)
    have R2 := hd (r2.more (show P + 1 + 1 ≤ P + 2 by omega))
    have G2 := hd (only_trans G1.out g2)
    clear hx1 r2 g2
    go_wp2
    go_ret
    exact ⟨_, rfl, ⟨by omega, by omega⟩, R2.out, G2.out⟩

set_option maxHeartbeats 800000 in
theorem DrawEvalPoly_any (A : Option Addr) (c : Nat) (zs : List Int) (w : World) (h : SR w A (zs.map (Value.int .u8))) (hcap : zs.length ≤ c) (hx : ∀ x ∈ zs, 0 ≤ x ∧ x ≤ 255) :
    Calls Try.prog 87 #[.slice A zs.length c] w fun e w' => DrewN 3 w e w' := by
  have H := hd h
  have Hx := hd hx
  clear h hx
  go_enter Try.func87, Try.ntmps87
  go_wp2_with fail
  refine (l9Open_any A c zs _ H.out hcap Hx.out).mono ?_
  rintro e w1 ⟨g, rfl, hg, rd, b1⟩
  go_wp2_with fail
  refine (l2Open_any g 0 _ rd (by omega)).mono ?_
  rintro e w2 ⟨A2, c2, ys, rfl, hy, own, hcap2, rd2, gr⟩
  have hgw := rd.lt
  have K2 := hd (grown_new b1 hg gr)
  have O2 := hd own
  have hsz : w1.heap.size ≤ w2.heap.size := gr.size
  clear own gr
  go_wp2_with fail
  refine (l2Number_any g _ _ rd2 (by omega)).mono ?_
  rintro e w3 ⟨v, rfl, hv, rd3, g3⟩
  have K3 := hd (grown_new K2.out hg g3)
  have O3 := hd (O2.out.keep_lo g3 (fun r hr => by simp at hr; omega))
  have Hv := hd hv
  clear g3 hv rd3
  go_wp2
  go_ret2
  exact ⟨A2, c2, ys, v, rfl, hy, O3.out.low b1.size, hcap2, K3.out, Hv.out⟩

theorem DrawShiftPoly_any (A : Option Addr) (c : Nat) (zs : List Int) (w : World) (h : SR w A (zs.map (Value.int .u8))) (hcap : zs.length ≤ c) (hx : ∀ x ∈ zs, 0 ≤ x ∧ x ≤ 255) :
    Calls Try.prog 44 #[.slice A zs.length c] w fun e w' => DrewN 3 w e w' := by
  have H := hd h
  have Hx := hd hx
  clear h hx
  go_enter Try.func44, Try.ntmps44
  go_wp2_with fail
  refine (DrawEvalPoly_any A c zs _ H.out hcap Hx.out).mono ?_
  rintro e w1 ⟨A2, c2, ys, v, rfl, hy, own, hcap2, k1, hv⟩
  have Own := hd own
  have Hv := hd hv
  clear own hv
  go_wp2
  go_ret2
  exact ⟨A2, c2, ys, v, rfl, hy, Own.out, hcap2, k1, Hv.out⟩

end Go.Proofs.Ythoodhdcmckkpaa
