/- What the capacity tells of the results of an engine that runs. -/
import Derived.Test.YtkmblobfamhoiaaLwQ
import Derived.Test.YtkmblobfamhoiaaEngL
namespace Go.Proofs.Ytkmblobfamhoiaa
open Go.RowKit
set_option maxRecDepth 4000

theorem tab_takeR (n m : Nat) (f : Nat → Int) (h : m ≤ n) : (tab n f).take m = tab m f := by
  apply List.ext_getElem?
  intro i
  rw [List.getElem?_take]
  by_cases hi : i < m
  · rw [if_pos hi, tab_at _ (by omega), tab_at _ hi]
  · rw [if_neg hi, List.getElem?_eq_none (by rw [tab_length]; omega)]

theorem capF_is {p : List Int} {n N M : Int} {K : Int} (h : capF p n N M = K) (hK : 0 ≤ K) : ∃ (vs : List Int) (W : Nat), valsP p n M = some vs ∧ N = W ∧ 1 ≤ W ∧ W ≤ 12 ∧ K = (capN vs W : Nat) := by
  cases hv : valsP p n M with
  | none => rw [capF_none hv] at h; omega
  | some vs =>
    cases hw : wV N
    · rw [capF_out hw] at h; omega
    · obtain ⟨W, rfl, h1, h12⟩ := wV_nat hw
      rw [capF_some hv hw] at h
      exact ⟨vs, W, rfl, rfl, h1, h12, h.symm⟩

theorem run_cap {p vs : List Int} {z : List ByteArray} {n M : Int} {W : Nat} (hv : valsP p n M = some vs) (hs : setF p n W = some z) :
    runF (manyV · 1) (capN vs W : Nat) z = some (vs.take (capN vs W)) ∧ engV z = true := by
  obtain ⟨hvp, hn, ⟨hM0, hM60⟩, -, hvs, hvl⟩ := valsP_some hv
  obtain ⟨q, W', hq, hNW, hW1, hW12, rfl, hvz, ⟨hq1, hq7⟩, -, -⟩ := set_read hs
  obtain rfl : W = W' := by omega
  obtain ⟨-, -, -, -, -, hqv⟩ := shiftP_some hq
  have hle := capN_le vs W
  refine ⟨?_, hvz⟩
  rw [run_eng (f := (manyV · 1)) (fun _ _ _ h => h.many 1) hW1 hW12 hq1 hq7 (by omega)]
  congr 1
  have hml : vs.length = M.toNat := by omega
  have ht : vs.take (capN vs W) = tab (capN vs W) fun i => val p (n + i) := by
    conv => lhs; arg 2; rw [hvs]
    exact tab_takeR _ _ _ (by omega)
  rw [ht]
  refine tab_congr fun i hi => ?_
  have hx : vs[i]? = some (val p (n + i)) := by
    have h1 : i < M.toNat := by omega
    rw [hvs]
    exact tab_at _ h1
  rw [iterF_many, getD_at (manyV_at _ (show 0 < q.length by omega)), List.drop_zero, hqv, Int.add_comm]
  exact sgn_of_fits hW1 (capN_fits vs W i _ hi hx)

theorem SG.take {α : Type} {f : α → Value} {w : World} {A : Option Addr} {xs : List α} (h : SG f w A xs) (k : Nat) : SG f w A (xs.take k) := by
  refine ⟨by have := h.len; simp; omega, fun j v hj => ?_⟩
  rw [List.map_take, List.getElem?_take] at hj
  split at hj
  · exact h.2 j v hj
  · cases hj

theorem OwnG.addr_or {α : Type} {f : α → Value} {E : TypeId} {B : Nat} {w : World} {A : Option Addr} {c : Nat} {xs : List α} (h : OwnG f E B w A c xs) : (A = none ∧ c = 0 ∧ xs = []) ∨ ∃ g, A = some ⟨g, 0, none⟩ := by
  rcases h.2.2 with ⟨h1, h2⟩ | ⟨g, cap, cur, hv, _⟩
  · simp only [Value.slice.injEq] at h1
    exact .inl ⟨h1.1, h1.2.2, List.eq_nil_of_length_eq_zero h1.2.1⟩
  · simp only [Value.slice.injEq] at hv
    exact .inr ⟨g, hv.1⟩

theorem ValuesOf_z (N M : Int) (A : Option Addr) (c n : Nat) (p q : List Int) (ok : Bool) (w : World) (hn : p.length = n) (h : SG (Value.int .i64) w A p) (hz : (valsP p N M).getD [] = q ∧ (valsP p N M).isSome = ok) :
    Calls Try.prog 60 #[.slice A n c, .int .i64 N, .int .i64 M] w fun e w' => RetNB 3 w.heap.size w q ok e w' := by
  obtain ⟨rfl, rfl⟩ := hz
  subst hn
  exact (ValuesOf_any A c p N M w h).mono fun _ _ h => RetNB.of h

end Go.Proofs.Ytkmblobfamhoiaa
