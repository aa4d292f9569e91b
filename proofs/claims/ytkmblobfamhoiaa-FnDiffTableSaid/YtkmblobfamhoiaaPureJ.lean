/- Plain mathematics: the values of products and differences. -/
import Derived.Test.YtkmblobfamhoiaaPureI
namespace Go.Proofs.Ytkmblobfamhoiaa

theorem Flat.of_zero {L : Nat} {f : Int → Int} (h : ∀ n, f n = 0) : Flat L f := by
  have : f = fun _ => 0 := funext h
  intro n
  rw [this, dlts_zero]

theorem dlt_mul (f g : Int → Int) : dlt (fun n => f n * g n) = fun n => f (n + 1) * dlt g n + dlt f n * g n := by
  funext n
  simp only [dlt, Int.mul_sub, Int.sub_mul]
  omega

theorem Flat.mul : ∀ (L a b : Nat) (f g : Int → Int), Flat a f → Flat b g → a + b ≤ L + 1 → Flat L (fun n => f n * g n)
  | _, 0, _, f, g, hf, _, _ => Flat.of_zero fun n => by rw [show f n = 0 from hf n, Int.zero_mul]
  | _, _, 0, f, g, _, hg, _ => Flat.of_zero fun n => by rw [show g n = 0 from hg n, Int.mul_zero]
  | 0, a + 1, b + 1, _, _, _, _, h => absurd h (by omega)
  | L + 1, a + 1, b + 1, f, g, hf, hg, h => by
    refine Flat.of_dlt ?_
    rw [dlt_mul]
    exact (Flat.mul L (a + 1) b (fun n => f (n + 1)) (Go.Proofs.Ytkmblobfamhoiaa.dlt g) (hf.shift 1) hg.dlt (by omega)).add (Flat.mul L a (b + 1) (Go.Proofs.Ytkmblobfamhoiaa.dlt f) g hf.dlt hg (by omega))

theorem mulP_some {p q s : List Int} (h : mulP p q = some s) : validP p = true ∧ validP q = true ∧ validP s = true ∧ s.length = p.length + q.length - 1 ∧ ∀ n, val s n = val p n * val q n := by
  rw [mulP] at h
  split at h
  · rename_i hc
    obtain ⟨hs, hv⟩ := chk_some h
    simp at hc
    refine ⟨hc.1, hc.2.1, hv, by rw [hs, fd_length, tab_length], fun n => ?_⟩
    rw [hs]
    have h1 := (validP_iff.1 hc.1).1
    have h2 := (validP_iff.1 hc.2.1).1
    exact val_fd_tab (f := fun n => val p n * val q n) (Flat.mul _ p.length q.length _ _ (flat_val p) (flat_val q) (by omega)) n
  · cases h

theorem diffP_valid {p : List Int} (hp : validP p = true) : validP (diffP p) = true := by
  obtain ⟨h1, h7, hx⟩ := validP_iff.1 hp
  rw [diffP, hp]
  by_cases h : p.length = 1
  · simp [h, validP, allB, inB]
  · rw [if_pos rfl, if_neg h]
    refine validP_iff.2 ⟨by simp; omega, by simp; omega, fun x hm => hx x (List.mem_of_mem_drop hm)⟩

theorem diffP_val {p : List Int} (hp : validP p = true) (n : Int) : val (diffP p) n = val p (n + 1) - val p n := by
  have e : dlt (val p) n = val (p.drop 1) n := by rw [dlt_val]
  rw [show val p (n + 1) - val p n = dlt (val p) n from rfl, e, diffP, hp, if_pos rfl]
  by_cases h : p.length = 1
  · rw [if_pos h, List.drop_eq_nil_of_le (by omega)]
    simp [val, valF]
  · rw [if_neg h]

end Go.Proofs.Ytkmblobfamhoiaa
