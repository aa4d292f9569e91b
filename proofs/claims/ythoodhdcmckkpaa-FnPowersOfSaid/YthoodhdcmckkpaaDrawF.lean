/- Contract of the reference's draw of two polynomials. -/
import Derived.Test.YthoodhdcmckkpaaDrawE
namespace Go.Proofs.Ythoodhdcmckkpaa
open Go.RowKit

def DrewTwo (E : TypeId) (w : World) (e : Ending) (w' : World) : Prop :=
  ∃ A c zs A2 c2 ys, e = .returned (.tuple #[.slice A zs.length c, .slice A2 ys.length c2]) ∧ (zs.length ≤ 8 ∧ OwnI E w.heap.size w' A c zs ∧ zs.length ≤ c) ∧ (ys.length ≤ 8 ∧ OwnI E w.heap.size w' A2 c2 ys ∧ ys.length ≤ c2) ∧ Below w.heap.size w w'

theorem DrawAddPolys_any (A : Option Addr) (c : Nat) (zs : List Int) (w : World) (h : SR w A (zs.map (Value.int .u8))) (hcap : zs.length ≤ c) (hx : ∀ x ∈ zs, 0 ≤ x ∧ x ≤ 255) :
    Calls Try.prog 48 #[.slice A zs.length c] w fun e w' => DrewTwo 3 w e w' := by
  have H := hd h
  have Hx := hd hx
  clear h hx
  go_enter Try.func48, Try.ntmps48
  go_wp2_with fail
  refine (l9Open_any A c zs _ H.out hcap Hx.out).mono ?_
  rintro e w1 ⟨g, rfl, hg, rd, b1⟩
  go_wp2_with fail
  refine (l2Open_any g 0 _ rd (by omega)).mono ?_
  rintro e w2 ⟨A2, c2, ys, rfl, hy, own, hcap2, rd2, gr⟩
  have hgw := rd.lt
  have K2 := hd (grown_new b1 hg gr)
  have O2 := hd own
  have hsz : w1.heap.size ≤ w2.heap.size := gr.size
  clear own gr
  go_wp2_with fail
  refine (l2Open_any g 30 _ rd2 (by omega)).mono ?_
  rintro e w3 ⟨A3, c3, xs, rfl, hy3, own3, hcap3, rd3, g3⟩
  have K3 := hd (grown_new K2.out hg g3)
  have O3 := hd (O2.out.keep_lo g3 (fun r hr => by simp at hr; omega))
  have O4 := hd own3
  clear own3 rd3 g3
  go_wp2
  go_ret2
  exact ⟨A2, c2, ys, A3, c3, xs, rfl, ⟨hy, O3.out.low b1.size, hcap2⟩, ⟨hy3, O4.out.low (Nat.le_trans b1.size hsz), hcap3⟩, K3.out⟩

end Go.Proofs.Ythoodhdcmckkpaa
