/- Plain mathematics: what the laws on steps, turns and shifts say. -/
import Derived.Test.YtcalheieakppmaaPureE
namespace Go.Proofs.Ytcalheieakppmaa

theorem chk_some {p q : List Int} (h : chk p = some q) : q = p ∧ validP q = true := by
  unfold chk at h
  split at h
  · injection h with h; subst h; exact ⟨rfl, by assumption⟩
  · cases h
theorem chk_of {p : List Int} (h : validP p = true) : chk p = some p := by rw [chk, h]; rfl

theorem stepP_some {p q : List Int} {m : Int} (h : stepP p m = some q) : validP p = true ∧ validP q = true ∧ (1 ≤ m ∧ m ≤ 10) ∧ q = fd (tab p.length fun i => val p (m * i)) ∧ q.length = p.length ∧ ∀ n, val q n = val p (m * n) := by
  unfold stepP at h
  split at h
  · rename_i hc
    simp only [Bool.and_eq_true, decide_eq_true_eq] at hc
    obtain ⟨e, hq⟩ := chk_some h
    refine ⟨hc.1, hq, hc.2, e, by rw [e, fd_length, tab_length], fun n => ?_⟩
    rw [e]
    exact val_fd_tab ((flat_val p).step m) n
  · cases h

theorem turnP_some {p q : List Int} (h : turnP p = some q) : validP p = true ∧ validP q = true ∧ q = fd (tab p.length fun i => val p (-i)) ∧ q.length = p.length ∧ ∀ n, val q n = val p (-n) := by
  unfold turnP at h
  split at h
  · rename_i hc
    obtain ⟨e, hq⟩ := chk_some h
    refine ⟨hc, hq, e, by rw [e, fd_length, tab_length], fun n => ?_⟩
    have hf : Flat p.length fun n => val p (-n) := by
      have := (flat_val p).step (-1)
      rwa [show (fun n => val p (-1 * n)) = fun n => val p (-n) from funext fun n => by rw [show -1 * n = -n by omega]] at this
    rw [e]
    exact val_fd_tab hf n
  · cases h

theorem step_evl {p q : List Int} {m : Int} (h : stepP p m = some q) {n : Int} (h1 : -8 ≤ n) (h2 : n ≤ 8) : evl q n = evl p (m * n) := by
  obtain ⟨hp, hq, hm, _, _, hv⟩ := stepP_some h
  have := mul_bd m n 10 8 (by decide) (by omega) (by omega) (by omega) (by omega)
  rw [evl_in hq (by omega) (by omega), evl_in hp (by omega) (by omega), hv]

theorem turn_evl {p q : List Int} (h : turnP p = some q) {n : Int} (h1 : -8 ≤ n) (h2 : n ≤ 8) : evl q n = evl p (-n) := by
  obtain ⟨hp, hq, _, _, hv⟩ := turnP_some h
  rw [evl_in hq (by omega) (by omega), evl_in hp (by omega) (by omega), hv]

theorem turn_turn {p q : List Int} (h : turnP p = some q) : turnP q = some p := by
  obtain ⟨hp, hq, _, hl, hv⟩ := turnP_some h
  rw [turnP, if_pos hq]
  have e : fd (tab q.length fun i => val q (-i)) = p := fd_unique (L := q.length) (f := fun n => val q (-n)) hl.symm fun n => by rw [hv, Int.neg_neg]
  rw [e]; exact chk_of hp

theorem step_one {p q : List Int} (h : stepP p 1 = some q) : q = p := by
  obtain ⟨hp, hq, _, e, hl, hv⟩ := stepP_some h
  exact val_inj p.length q p hl rfl fun n => by rw [hv, Int.one_mul]

end Go.Proofs.Ytcalheieakppmaa
