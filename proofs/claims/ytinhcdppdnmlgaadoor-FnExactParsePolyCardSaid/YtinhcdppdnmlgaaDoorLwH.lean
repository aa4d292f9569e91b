/- Helpers of the exact laws: marks with any beginning, lists of ints beside engines. -/
import Derived.Test.YtinhcdppdnmlgaaDoorLwE
import Derived.Test.YtinhcdppdnmlgaaDoorLawA
import Derived.Test.YtinhcdppdnmlgaaDoorGrE
namespace Go.Proofs.YtinhcdppdnmlgaaDoor
open Go.RowKit
set_option maxRecDepth 4000

theorem markE (B n : Nat) (A : Option Addr) (c : Nat) (xs : List ByteArray) (k : Nat) (kI m : Int) (w : World) (hn : xs.length = n) (h : OwnS 9 B w A c xs) (hB : B ≤ w.heap.size) (hl : n ≤ 1048576) (hkI : (k : Int) = kI) (hk1 : 1 ≤ k) (hk2 : k ≤ 10000000) (hm : ((k + n : Nat) : Int) = m) :
    Calls Tryd.prog 22 #[.agg #[.slice A n c], .int .i64 kI] w fun e w' =>
      e = .returned (.int .i64 m) ∧ OwnS 9 B w' A c (mks k n) ∧ Below B w w' ∧ Beside A w w' := by
  have := markEngine_any B n A c xs k w hn h hB hl hk1 hk2
  rw [hm, hkI] at this
  exact this.mono fun e w' ⟨h1, h2, h3, h4⟩ => ⟨h1, h2, h3, .of h3 h4⟩

theorem toInts_r (A : Option Addr) (c n : Nat) (p : List Int) (w : World) (h : SG (Value.int .i64) w A p) (hn : p.length = n) (hl : n ≤ 1048576) :
    Calls Tryd.prog 18 #[.slice A n c] w fun e w' => RetG (Value.int .i64) 3 w.heap.size w p e w' := by
  subst hn
  exact toIntS_any A c p w h hl

theorem eqInts_same (n : Nat) (A A' : Option Addr) (c c' : Nat) (xs : List Int) (w : World) (hn : xs.length = n) (h : SG (Value.int .i64) w A xs) (h' : SG (Value.int .i64) w A' xs) :
    Calls Tryd.prog 9 #[.slice A n c, .slice A' n c'] w fun e w' => e = .returned (.bool true) ∧ Below w.heap.size w w' := by
  subst hn
  have := eqIntS_any A A' c c' xs xs w h h'
  simpa using this

theorem markI1 (B n : Nat) (A : Option Addr) (c : Nat) (xs : List Int) (m : Int) (w : World) (hn : xs.length = n) (h : OwnG (Value.int .i64) 3 B w A c xs) (hB : B ≤ w.heap.size) (hl : n ≤ 1048576) (hm : ((1 + n : Nat) : Int) = m) :
    Calls Tryd.prog 10 #[.slice A n c, .int .i64 1] w fun e w' =>
      e = .returned (.int .i64 m) ∧ OwnG (Value.int .i64) 3 B w' A c (marks 1 n) ∧ Below B w w' ∧ Beside A w w' := by
  subst hn
  refine (markIntS_any B A c xs 1 w h hl (by decide) (by decide)).mono ?_
  rintro e w' ⟨h1, h2, h3⟩
  have hb : (Value.slice A xs.length c).ownBlock = A.map Addr.block := by cases A <;> rfl
  rw [hb] at h3
  refine ⟨by rw [h1, ← hm]; simp, h2, (Below.refl _ _).grown h3 hB (fun r hr => ?_), h3⟩
  rw [← hb] at hr
  exact (OwnG.lt (f := Value.int .i64) h hr).1

theorem heldI1 (n : Nat) (A : Option Addr) (c : Nat) (m : Int) (w : World) (h : SG (Value.int .i64) w A (marks 1 n)) (hl : n ≤ 1048576) (hm : ((1 + n : Nat) : Int) = m) :
    Calls Tryd.prog 11 #[.slice A n c, .int .i64 1] w fun e w' => e = .returned (.int .i64 m) ∧ Below w.heap.size w w' := by
  refine (heldIntS_any n A c 1 w h hl (by decide) (by decide)).mono ?_
  rintro e w' ⟨h1, rfl⟩
  exact ⟨by rw [h1, ← hm]; simp, Below.refl _ _⟩

end Go.Proofs.YtinhcdppdnmlgaaDoor
