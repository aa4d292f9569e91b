/- Contracts of the draws of one polynomial, and of one polynomial and a number. -/
import Derived.Test.YthoodhdcmckkpaaDrawC
namespace Go.Proofs.Ythoodhdcmckkpaa
open Go.RowKit

/-- What a law is given by a draw of a polynomial and a number. -/
def DrewN (E : TypeId) (w : World) (e : Ending) (w' : World) : Prop :=
  ∃ A c zs v, e = .returned (.tuple #[.slice A zs.length c, .int .i64 v]) ∧ zs.length ≤ 8 ∧ OwnI E w.heap.size w' A c zs ∧ zs.length ≤ c ∧ Below w.heap.size w w' ∧ (-9223372036854775808 ≤ v ∧ v ≤ 9223372036854775807)

theorem DrawPowersOf_any (A : Option Addr) (c : Nat) (zs : List Int) (w : World) (h : SR w A (zs.map (Value.int .u8))) (hcap : zs.length ≤ c) (hx : ∀ x ∈ zs, 0 ≤ x ∧ x ≤ 255) :
    Calls Try.prog 25 #[.slice A zs.length c] w fun e w' => Drew 3 w e w' := by
  have H := hd h
  have Hx := hd hx
  clear h hx
  go_enter Try.func25, Try.ntmps25
  go_wp2_with fail
  refine (l9Open_any A c zs _ H.out hcap Hx.out).mono ?_
  rintro e w1 ⟨g, rfl, hg, rd, b1⟩
  go_wp2_with fail
  refine (l2Open_any g 0 _ rd (by omega)).mono ?_
  rintro e w2 ⟨A2, c2, ys, rfl, hy, own, hcap2, rd2, gr⟩
  have Hf : Hid (Drew 3 w (.returned (.slice A2 ys.length c2)) w2) := hd ⟨A2, c2, ys, rfl, hy, own.low b1.size, hcap2, grown_new b1 hg gr⟩
  clear own rd2 gr
  go_wp2
  go_ret
  exact Hf.out

theorem DrawTrimPoly_any (A : Option Addr) (c : Nat) (zs : List Int) (w : World) (h : SR w A (zs.map (Value.int .u8))) (hcap : zs.length ≤ c) (hx : ∀ x ∈ zs, 0 ≤ x ∧ x ≤ 255) :
    Calls Try.prog 37 #[.slice A zs.length c] w fun e w' => Drew 3 w e w' := by
  have H := hd h
  have Hx := hd hx
  clear h hx
  go_enter Try.func37, Try.ntmps37
  go_wp2_with fail
  refine (l9Open_any A c zs _ H.out hcap Hx.out).mono ?_
  rintro e w1 ⟨g, rfl, hg, rd, b1⟩
  go_wp2_with fail
  refine (l2Open_any g 0 _ rd (by omega)).mono ?_
  rintro e w2 ⟨A2, c2, ys, rfl, hy, own, hcap2, rd2, gr⟩
  have Hf : Hid (Drew 3 w (.returned (.slice A2 ys.length c2)) w2) := hd ⟨A2, c2, ys, rfl, hy, own.low b1.size, hcap2, grown_new b1 hg gr⟩
  clear own rd2 gr
  go_wp2
  go_ret
  exact Hf.out

theorem DrawFromPowers_any (A : Option Addr) (c : Nat) (zs : List Int) (w : World) (h : SR w A (zs.map (Value.int .u8))) (hcap : zs.length ≤ c) (hx : ∀ x ∈ zs, 0 ≤ x ∧ x ≤ 255) :
    Calls Try.prog 57 #[.slice A zs.length c] w fun e w' => Drew 3 w e w' := by
  have H := hd h
  have Hx := hd hx
  clear h hx
  go_enter Try.func57, Try.ntmps57
  go_wp2_with fail
  refine (l9Open_any A c zs _ H.out hcap Hx.out).mono ?_
  rintro e w1 ⟨g, rfl, hg, rd, b1⟩
  go_wp2_with fail
  refine (l2Open_any g 0 _ rd (by omega)).mono ?_
  rintro e w2 ⟨A2, c2, ys, rfl, hy, own, hcap2, rd2, gr⟩
  have Hf : Hid (Drew 3 w (.returned (.slice A2 ys.length c2)) w2) := hd ⟨A2, c2, ys, rfl, hy, own.low b1.size, hcap2, grown_new b1 hg gr⟩
  clear own rd2 gr
  go_wp2
  go_ret
  exact Hf.out

set_option maxHeartbeats 800000 in
theorem DrawSumPoly_any (A : Option Addr) (c : Nat) (zs : List Int) (w : World) (h : SR w A (zs.map (Value.int .u8))) (hcap : zs.length ≤ c) (hx : ∀ x ∈ zs, 0 ≤ x ∧ x ≤ 255) :
    Calls Try.prog 19 #[.slice A zs.length c] w fun e w' => DrewN 3 w e w' := by
  have H := hd h
  have Hx := hd hx
  clear h hx
  go_enter Try.func19, Try.ntmps19
  go_wp2_with fail
  refine (l9Open_any A c zs _ H.out hcap Hx.out).mono ?_
  rintro e w1 ⟨g, rfl, hg, rd, b1⟩
  go_wp2_with fail
  refine (l2Open_any g 0 _ rd (by omega)).mono ?_
  rintro e w2 ⟨A2, c2, ys, rfl, hy, own, hcap2, rd2, gr⟩
  have hgw := rd.lt
  have K2 := hd (grown_new b1 hg gr)
  have O2 := hd own
  have hsz : w1.heap.size ≤ w2.heap.size := gr.size
  clear own gr
  go_wp2_with fail
  refine (pick_any g _ 12 _ rd2 (by omega)).mono ?_
  rintro e w3 ⟨v, rfl, hv, rd3, g3⟩
  obtain ⟨hv0, hv1⟩ := hv
  have K3 := hd (grown_new K2.out hg g3)
  have O3 := hd (O2.out.keep_lo g3 (fun r hr => by simp at hr; omega))
  have hsz3 : w1.heap.size ≤ w3.heap.size := Nat.le_trans hsz g3.size
  clear g3 hv1
  by_cases h0 : v = 0
  · subst h0
    have Hlit : Hid (OwnI 3 w3.heap.size (w3.alloc (.cells #[.int .i64 100000, .int .i64 100001, .int .i64 (-100001), .int .i64 9223372036854775807] 3)) (some ⟨w3.heap.size, 0, none⟩) 4 [100000, 100001, -100001, 9223372036854775807]) := hd
      ⟨by simp, World.ownsRow_lit _ #[.int .i64 100000, .int .i64 100001, .int .i64 (-100001), .int .i64 9223372036854775807] 4 (Nat.le_refl _) (by simp [maxLen]) rfl⟩
    have Ra := hd (rd3.below ((Below.refl w3.heap.size w3).alloc (Nat.le_refl _) (.cells #[.int .i64 100000, .int .i64 100001, .int .i64 (-100001), .int .i64 9223372036854775807] 3)) (by omega))
    clear rd3
    go_wp2_with fail
    refine (num_any g _ _ 4 [100000, 100001, -100001, 9223372036854775807] _ Ra.out (by omega) Hlit.out.si (Hlit.out.off (by omega)) (by simp)).mono ?_
    rintro e w4 ⟨x, rfl, hx, rd4, g4⟩
    have hx' : -9223372036854775808 ≤ x ∧ x ≤ 9223372036854775807 := by simp at hx; omega
    have Hxx := hd hx'
    have K4 := hd (grown_new (K3.out.alloc K3.out.size _) hg g4)
    have O4 := hd ((O3.out.alloc _).keep_lo g4 (fun r hr => by simp at hr; omega))
    clear hx hx' rd4 g4
    go_wp2
    go_ret2
    exact ⟨A2, c2, ys, x, rfl, hy, O4.out.low b1.size, hcap2, K4.out, Hxx.out⟩
  · have e0 : (v == 0) = false := by simp [h0]
    clear h0
    go_wp2_with fail
    refine (pick_any g _ 200 _ rd3 (by omega)).mono ?_
    rintro e w4 ⟨x, rfl, hx, rd4, g4⟩
    obtain ⟨hx0, hx1⟩ := hx
    have hx2 := hx1 (by omega)
    have K4 := hd (grown_new K3.out hg g4)
    have O4 := hd (O3.out.keep_lo g4 (fun r hr => by simp at hr; omega))
    clear hx1 rd4 g4
    go_wp2
    go_ret2
    exact ⟨A2, c2, ys, _, rfl, hy, O4.out.low b1.size, hcap2, K4.out, by omega⟩

set_option maxHeartbeats 800000 in
theorem DrawStepPoly_any (A : Option Addr) (c : Nat) (zs : List Int) (w : World) (h : SR w A (zs.map (Value.int .u8))) (hcap : zs.length ≤ c) (hx : ∀ x ∈ zs, 0 ≤ x ∧ x ≤ 255) :
    Calls Try.prog 60 #[.slice A zs.length c] w fun e w' => DrewN 3 w e w' := by
  have H := hd h
  have Hx := hd hx
  clear h hx
  go_enter Try.func60, Try.ntmps60
  go_wp2_with fail
  refine (l9Open_any A c zs _ H.out hcap Hx.out).mono ?_
  rintro e w1 ⟨g, rfl, hg, rd, b1⟩
  go_wp2_with fail
  refine (l2Open_any g 0 _ rd (by omega)).mono ?_
  rintro e w2 ⟨A2, c2, ys, rfl, hy, own, hcap2, rd2, gr⟩
  have hgw := rd.lt
  have K2 := hd (grown_new b1 hg gr)
  have O2 := hd own
  have hsz : w1.heap.size ≤ w2.heap.size := gr.size
  clear own gr
  go_wp2_with fail
  refine (pick_any g _ 12 _ rd2 (by omega)).mono ?_
  rintro e w3 ⟨v, rfl, hv, rd3, g3⟩
  obtain ⟨hv0, hv1⟩ := hv
  have K3 := hd (grown_new K2.out hg g3)
  have O3 := hd (O2.out.keep_lo g3 (fun r hr => by simp at hr; omega))
  have hsz3 : w1.heap.size ≤ w3.heap.size := Nat.le_trans hsz g3.size
  clear g3 hv1
  by_cases h0 : v = 0
  · subst h0
    have Hlit : Hid (OwnI 3 w3.heap.size (w3.alloc (.cells #[.int .i64 0, .int .i64 10, .int .i64 11, .int .i64 (-1)] 3)) (some ⟨w3.heap.size, 0, none⟩) 4 [0, 10, 11, -1]) := hd
      ⟨by simp, World.ownsRow_lit _ #[.int .i64 0, .int .i64 10, .int .i64 11, .int .i64 (-1)] 4 (Nat.le_refl _) (by simp [maxLen]) rfl⟩
    have Ra := hd (rd3.below ((Below.refl w3.heap.size w3).alloc (Nat.le_refl _) (.cells #[.int .i64 0, .int .i64 10, .int .i64 11, .int .i64 (-1)] 3)) (by omega))
    clear rd3
    go_wp2_with fail
    refine (num_any g _ _ 4 [0, 10, 11, -1] _ Ra.out (by omega) Hlit.out.si (Hlit.out.off (by omega)) (by simp)).mono ?_
    rintro e w4 ⟨x, rfl, hx, rd4, g4⟩
    have hx' : -9223372036854775808 ≤ x ∧ x ≤ 9223372036854775807 := by simp at hx; omega
    have Hxx := hd hx'
    have K4 := hd (grown_new (K3.out.alloc K3.out.size _) hg g4)
    have O4 := hd ((O3.out.alloc _).keep_lo g4 (fun r hr => by simp at hr; omega))
    clear hx hx' rd4 g4
    go_wp2
    go_ret2
    exact ⟨A2, c2, ys, x, rfl, hy, O4.out.low b1.size, hcap2, K4.out, Hxx.out⟩
  · have e0 : (v == 0) = false := by simp [h0]
    clear h0
    go_wp2_with fail
    refine (pick_any g _ 5 _ rd3 (by omega)).mono ?_
    rintro e w4 ⟨x, rfl, hx, rd4, g4⟩
    obtain ⟨hx0, hx1⟩ := hx
    have hx2 := hx1 (by omega)
    have K4 := hd (grown_new K3.out hg g4)
    have O4 := hd (O3.out.keep_lo g4 (fun r hr => by simp at hr; omega))
    clear hx1 rd4 g4
    go_wp2
    go_ret2
    exact ⟨A2, c2, ys, _, rfl, hy, O4.out.low b1.size, hcap2, K4.out, by omega⟩

end Go.Proofs.Ythoodhdcmckkpaa
