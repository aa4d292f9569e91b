/- The contract of the reference's l3Skew, for whatever comes in. -/
import Derived.Test.YtkmblobfamhoiaaSpeV
import Derived.Test.YtkmblobfamhoiaaSpeP
namespace Go.Proofs.Ytkmblobfamhoiaa
open Go.RowKit
set_option maxRecDepth 4000

theorem run_field0 (A : Option Addr) (c n : Nat) (w : World) : Sem.run Try.prog (Instr.field 36 (.agg #[.slice A n c]) 0) w = .ok (.slice A n c) w := by
  simp [Instr.field, asAgg, go_sem]

theorem l3Many_s (W : Nat) (vs : List Int) (N N' : Int) (A : Option Addr) (c n : Nat) (w : World) (hN : N' = N) (h : SS w A (eng W vs)) (h1 : 1 ≤ W) (h12 : W ≤ 12) (hn : vs.length = n) (hn1 : 1 ≤ n) (hn7 : n ≤ 7) (hN1 : -1000 ≤ N) (hN2 : N ≤ 1000) :
    Calls Try.prog 97 #[.agg #[.slice A n c], .int .i64 N'] w fun e w' => ∃ A' c', e = .returned (.agg #[.slice A' n c']) ∧ OwnS 9 w.heap.size w' A' c' (eng W (manyV vs N)) ∧ Below w.heap.size w w' := by
  subst hN
  refine (l3Many_any W vs N' A c n w h h1 h12 hn hn1 hn7 hN1 hN2).mono ?_
  rintro e w' ⟨A', c', rfl, ho, hb⟩
  exact ⟨A', c', by rw [eng_length, manyV_length, hn], ho, hb⟩

end Go.Proofs.Ytkmblobfamhoiaa
