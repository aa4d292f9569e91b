/- Plain mathematics: a polynomial's values follow from its differences; sums, shifts, steps. -/
import Derived.Test.YtcalheieakppmaaPureC
namespace Go.Proofs.Ytcalheieakppmaa

theorem valF_step : ∀ (p : List Int) (j : Nat) (n : Int), valF (j + 1) p (n + 1) = valF (j + 1) p n + valF j p n
  | [], j, n => by simp [valF]
  | d :: r, j, n => by
    have ih := valF_step r (j + 1) n
    have hc := chs_step n j
    simp only [valF, ih, hc, Int.mul_add]
    omega

/-- The step from one argument to the next adds the value of the differences. -/
theorem val_step (p : List Int) (n : Int) : val p (n + 1) = val p n + val (p.drop 1) n := by
  cases p with
  | nil => simp [val, valF]
  | cons d r =>
    have h := valF_step r 0 n
    simp only [val, valF, List.drop_succ_cons, List.drop_zero, chs, Nat.zero_add] at h ⊢
    omega

theorem valF_zero : ∀ (p : List Int) (j : Nat), valF (j + 1) p 0 = 0
  | [], _ => rfl
  | d :: r, j => by rw [valF, valF_zero r (j + 1), chs_zero_succ]; simp
theorem val_zero (d : Int) (r : List Int) : val (d :: r) 0 = d := by
  rw [val, valF, valF_zero]; simp [chs]

theorem evl_in {p : List Int} (hv : validP p = true) {n : Int} (h1 : -200 ≤ n) (h2 : n ≤ 200) : evl p n = val p n := by
  rw [evl, hv, inB_iff.2 ⟨h1, h2⟩]; rfl

theorem sumP_some {p q : List Int} {c : Int} (h : sumP p c = some q) : q = c :: p ∧ validP p = true ∧ validP q = true := by
  unfold sumP chk at h
  split at h
  · split at h
    · injection h with h
      subst h
      exact ⟨rfl, by assumption, by assumption⟩
    · cases h
  · cases h

theorem sum_step {p q : List Int} {c : Int} (h : sumP p c = some q) (n : Int) (h1 : -200 ≤ n) (h2 : n < 200) : evl q (n + 1) = evl q n + evl p n := by
  obtain ⟨rfl, hp, hq⟩ := sumP_some h
  rw [evl_in hq (by omega) (by omega), evl_in hq (by omega) (by omega), evl_in hp (by omega) (by omega), val_step]
  rfl

theorem sum_start {p q : List Int} {c : Int} (h : sumP p c = some q) : evl q 0 = c := by
  obtain ⟨rfl, hp, hq⟩ := sumP_some h
  rw [evl_in hq (by omega) (by omega), val_zero]

theorem sum_diff {p q : List Int} {c : Int} (h : sumP p c = some q) : diffP q = p ∧ q[0]? = some c := by
  obtain ⟨rfl, hp, hq⟩ := sumP_some h
  obtain ⟨h1, _⟩ := validP_iff.1 hp
  refine ⟨?_, rfl⟩
  rw [diffP, hq, if_pos rfl, if_neg (by rw [List.length_cons]; omega)]
  rfl

theorem evl_bd60 {p : List Int} {n : Int} (h1 : -60 ≤ n) (h2 : n ≤ 60) : -10000000000000 ≤ evl p n ∧ evl p n ≤ 10000000000000 := by
  unfold evl
  split
  · rename_i h
    simp only [Bool.and_eq_true] at h
    exact val60 h.1 h1 h2
  · omega

end Go.Proofs.Ytcalheieakppmaa
