/- Plain mathematics: the differences of a polynomial's values at later arguments; shifted polynomials. -/
import Derived.Test.YtcalheieakppmaaPureF
namespace Go.Proofs.Ytcalheieakppmaa

theorem tab_succ (L : Nat) (g : Nat → Int) : tab (L + 1) g = g 0 :: tab L (fun i => g (i + 1)) := by
  simp [tab, List.range_succ_eq_map]

theorem nbr_tab (L : Nat) (g : Nat → Int) : nbr (tab (L + 1) g) = tab L (fun i => g (i + 1) - g i) := by
  apply List.ext_getElem?
  intro k
  by_cases hk : k < L
  · rw [nbr_at _ k _ _ (tab_at g (by omega : k < L + 1)) (tab_at g (by omega : k + 1 < L + 1)), tab_at _ hk]
  · rw [List.getElem?_eq_none (by rw [nbr_length, tab_length]; omega), List.getElem?_eq_none (by rw [tab_length]; omega)]

theorem fd_tab : ∀ (L : Nat) (F : Int → Int) (a : Int), fd (tab L fun i => F (a + i)) = tab L fun k => dlts k F a
  | 0, F, a => rfl
  | L + 1, F, a => by
    have h1 := nbr_tab L fun i => F (a + i)
    have h2 : (tab L fun i => F (a + ((i + 1 : Nat) : Int)) - F (a + (i : Int))) = tab L fun i => dlt F (a + i) := tab_congr fun i _ => by
      unfold dlt
      rw [show a + ((i + 1 : Nat) : Int) = a + (i : Int) + 1 by omega]
    rw [h2] at h1
    have h3 := tab_succ L fun i => F (a + i)
    rw [h3, fd_cons, ← h3, h1, fd_tab L (dlt F) a, tab_succ]
    simp only [dlts_dlt, dlts, Int.natCast_zero, Int.add_zero]

theorem fd_vals (p : List Int) (a : Int) : fd (tab p.length fun i => val p (a + i)) = tab p.length fun k => val (p.drop k) a := by
  rw [fd_tab]
  exact tab_congr fun k _ => by rw [dlts_val]

theorem shiftP_eq (p : List Int) (n : Int) : shiftP p n = if validP p && inB n 200 then chk (fd (tab p.length fun i => val p (n + i))) else none := by
  rw [shiftP, fd_vals]

theorem shiftP_some {p q : List Int} {n : Int} (h : shiftP p n = some q) : validP p = true ∧ validP q = true ∧ (-200 ≤ n ∧ n ≤ 200) ∧ q = (tab p.length fun k => val (p.drop k) n) ∧ q.length = p.length ∧ ∀ m, val q m = val p (m + n) := by
  have h0 := h
  unfold shiftP at h
  split at h
  · rename_i hc
    simp only [Bool.and_eq_true] at hc
    obtain ⟨e, hq⟩ := chk_some h
    refine ⟨hc.1, hq, inB_iff.1 hc.2, e, by rw [e, tab_length], fun m => ?_⟩
    have e2 : q = fd (tab p.length fun i => (fun m => val p (m + n)) (i : Int)) := by
      rw [e, ← fd_vals]
      congr 1
      exact tab_congr fun i _ => by simp only; rw [Int.add_comm]
    rw [e2]
    exact val_fd_tab ((flat_val p).shift n) m
  · cases h

theorem shift_evl {p q : List Int} {n : Int} (h : shiftP p n = some q) {m : Int} (h1 : -5 ≤ m) (h2 : m ≤ 10) (_h3 : inB (m + n) 200 = true) : val p (m + n) = evl q m := by
  obtain ⟨hp, hq, hn, _, _, hv⟩ := shiftP_some h
  rw [evl_in hq (by omega) (by omega), hv]

theorem shift_back {p q : List Int} {n : Int} (h : shiftP p n = some q) : shiftP q (-n) = some p := by
  obtain ⟨hp, hq, hn, _, hl, hv⟩ := shiftP_some h
  have e : (tab q.length fun k => val (q.drop k) (-n)) = p := by
    rw [← fd_vals, hl]
    exact fd_unique rfl (f := fun i => val q (-n + i)) fun i => by rw [hv, show -n + i + n = i by omega]
  rw [shiftP, hq, inB_iff.2 ⟨by omega, by omega⟩]
  simp only [Bool.and_self, if_true]
  rw [e]; exact chk_of hp

theorem shift_last {p q : List Int} {n : Int} (h : shiftP p n = some q) {x y : Int} (hx : q[p.length - 1]? = some x) (hy : p[p.length - 1]? = some y) : x = y := by
  obtain ⟨hp, hq, hn, e, hl, hv⟩ := shiftP_some h
  have h1 := (validP_iff.1 hp).1
  rw [e, tab_at _ (by omega)] at hx
  injection hx with hx
  obtain ⟨hy1, hy2⟩ := List.getElem?_eq_some_iff.1 hy
  rw [← hx, List.drop_eq_getElem_cons hy1, hy2, show p.length - 1 + 1 = p.length by omega, List.drop_length]
  simp [val, valF, chs]

theorem shift_next {p q r : List Int} {n : Int} (h : shiftP p n = some q) (k : shiftP p (n + 1) = some r) {i : Nat} {x y : Int} (hx : r[i]? = some x) (hy : q[i]? = some y) :
    x = y + (q[i + 1]?).getD 0 := by
  obtain ⟨hp, hq, hn, e, hl, hv⟩ := shiftP_some h
  obtain ⟨_, hr, _, e', hl', _⟩ := shiftP_some k
  have hi : i < p.length := by have := (List.getElem?_eq_some_iff.1 hy).1; omega
  rw [e', tab_at _ hi] at hx
  have hy' := hy
  rw [e, tab_at _ hi] at hy'
  injection hx with hx
  injection hy' with hy'
  have hs := val_step (p.drop i) n
  rw [List.drop_drop] at hs
  have hq1 : (q[i + 1]?).getD 0 = val (p.drop (i + 1)) n := by
    by_cases h1 : i + 1 < p.length
    · rw [e, tab_at _ h1]; rfl
    · rw [List.getElem?_eq_none (by omega), List.drop_eq_nil_of_le (by omega)]; rfl
  rw [hq1]
  omega

end Go.Proofs.Ytcalheieakppmaa
