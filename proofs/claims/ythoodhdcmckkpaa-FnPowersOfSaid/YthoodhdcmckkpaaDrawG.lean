/- Contract of the reference's draw of two polynomials for a product. -/
import Derived.Test.YthoodhdcmckkpaaDrawF
import Derived.Test.YthoodhdcmckkpaaPolyE
namespace Go.Proofs.Ythoodhdcmckkpaa
open Go.RowKit

def SeenTwo (w : World) (e : Ending) (w' : World) : Prop :=
  ∃ A c zs A2 c2 ys, e = .returned (.tuple #[.slice A zs.length c, .slice A2 ys.length c2]) ∧ (zs.length ≤ 8 ∧ SI w' A zs ∧ zs.length ≤ c) ∧ (ys.length ≤ 8 ∧ SI w' A2 ys ∧ ys.length ≤ c2) ∧ Below w.heap.size w w'

theorem SeenTwo.of {w w' : World} {A A2 : Option Addr} {n c c2 m : Nat} {zs ys : List Int} (hn : zs.length = n) (hm : ys.length = m) (h8 : zs.length ≤ 8) (h : SI w' A zs) (hc : zs.length ≤ c) (h8' : ys.length ≤ 8) (h' : SI w' A2 ys) (hc' : ys.length ≤ c2) (hb : Below w.heap.size w w') :
    SeenTwo w (.returned (.tuple #[.slice A n c, .slice A2 m c2])) w' := by
  subst hn hm
  exact ⟨_, _, _, _, _, _, rfl, ⟨h8, h, hc⟩, ⟨h8', h', hc'⟩, hb⟩

theorem DrawMulPolys_any (A : Option Addr) (c : Nat) (zs : List Int) (w : World) (h : SR w A (zs.map (Value.int .u8))) (hcap : zs.length ≤ c) (hx : ∀ x ∈ zs, 0 ≤ x ∧ x ≤ 255) :
    Calls Try.prog 61 #[.slice A zs.length c] w fun e w' => SeenTwo w e w' := by
  have H := hd h
  have Hx := hd hx
  clear h hx
  go_enter Try.func61, Try.ntmps61
  go_wp2_with fail
  refine (DrawAddPolys_any A c zs _ H.out hcap Hx.out).mono ?_
  rintro e w1 ⟨A1, c1, p, A2, c2, q, rfl, ⟨hp8, hown, hc1⟩, ⟨hq8, hown2, hc2⟩, b1⟩
  have P1 := hd hown.si
  have P2 := hd hown2.si
  clear hown hown2
  by_cases h3 : 3 < p.length
  · obtain ⟨b, off, rfl, hb⟩ := P1.out.nonempty (by omega)
    have Pt := hd (P1.out.take 3)
    have Htl : Hid ((p.take 3).length = 3) := hd (by rw [List.length_take]; omega)
    by_cases hpos : 0 < (zs.length : Int) % 3
    · go_wp2
      go_ret2
      exact SeenTwo.of Htl.out rfl (by rw [Htl.out]; omega) Pt.out (by rw [Htl.out]; omega) hq8 P2.out hc2 b1
    · go_wp2
      go_ret2
      exact SeenTwo.of rfl rfl hp8 P1.out hc1 hq8 P2.out hc2 b1
  · go_wp2
    go_ret2
    exact SeenTwo.of rfl rfl hp8 P1.out hc1 hq8 P2.out hc2 b1

end Go.Proofs.Ythoodhdcmckkpaa
