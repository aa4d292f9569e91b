/- Plain mathematics: the degree of a product. -/
import Derived.Test.YtkmblobfamhoiaaPureJ
namespace Go.Proofs.Ytkmblobfamhoiaa

def cN : Nat → Nat → Int
  | 0, _ => 1
  | _ + 1, 0 => 1
  | a + 1, b + 1 => cN (a + 1) b + cN a (b + 1)

theorem cN_pos : ∀ a b, 0 < cN a b
  | 0, _ => by simp [cN]
  | _ + 1, 0 => by simp [cN]
  | a + 1, b + 1 => by
    have := cN_pos (a + 1) b
    have := cN_pos a (b + 1)
    rw [cN]; omega

theorem dlts_const {k : Nat} {f : Int → Int} (h : Flat (k + 1) f) (n : Int) : dlts k f n = dlts k f 0 := by
  refine const_of_dlt (f := dlts k f) (fun m => ?_) n
  have := h m
  rw [show dlts (k + 1) f m = dlt (dlts k f) m from rfl] at this
  exact this

theorem dlts_shift0 {k : Nat} {f : Int → Int} (h : Flat (k + 1) f) : dlts k (fun n => f (n + 1)) 0 = dlts k f 0 := by
  rw [dlts_comp_shift]
  exact dlts_const h _

theorem dlts_mul : ∀ (N a b : Nat) (f g : Int → Int), a + b ≤ N → Flat (a + 1) f → Flat (b + 1) g → ∀ n, dlts (a + b) (fun n => f n * g n) n = cN a b * (dlts a f 0 * dlts b g 0) := by
  intro N
  induction N with
  | zero =>
    intro a b f g h hf hg n
    obtain rfl : a = 0 := by omega
    obtain rfl : b = 0 := by omega
    have h1 := dlts_const hf n
    have h2 := dlts_const hg n
    simp only [dlts, cN, Int.one_mul] at h1 h2 ⊢
    rw [h1, h2]
  | succ N ih =>
    intro a b f g h hf hg n
    cases a with
    | zero =>
      cases b with
      | zero =>
        have h1 := dlts_const hf n
        have h2 := dlts_const hg n
        simp only [dlts, cN, Int.one_mul] at h1 h2 ⊢
        rw [h1, h2]
      | succ b =>
        rw [show 0 + (b + 1) = (0 + b) + 1 by omega, ← dlts_dlt, dlt_mul, dlts_add]
        have h1 := ih 0 b (fun n => f (n + 1)) (dlt g) (by omega) (hf.shift 1) hg.dlt n
        have h2 : dlts (0 + b) (fun n => dlt f n * g n) n = 0 := Flat.of_zero (fun n => by rw [show dlt f n = 0 from hf n, Int.zero_mul]) n
        show dlts (0 + b) (fun n => f (n + 1) * dlt g n) n + dlts (0 + b) (fun n => dlt f n * g n) n = _
        rw [h1, h2, dlts_shift0 hf, dlts_dlt]
        simp [cN]
    | succ a =>
      cases b with
      | zero =>
        rw [show a + 1 + 0 = (a + 0) + 1 by omega, ← dlts_dlt, dlt_mul, dlts_add]
        have h1 : dlts (a + 0) (fun n => f (n + 1) * dlt g n) n = 0 := Flat.of_zero (fun n => by rw [show dlt g n = 0 from hg n, Int.mul_zero]) n
        have h2 := ih a 0 (dlt f) g (by omega) hf.dlt hg n
        show dlts (a + 0) (fun n => f (n + 1) * dlt g n) n + dlts (a + 0) (fun n => dlt f n * g n) n = _
        rw [h1, h2, dlts_dlt]
        cases a <;> simp [cN]
      | succ b =>
        rw [show a + 1 + (b + 1) = (a + 1 + b) + 1 by omega, ← dlts_dlt, dlt_mul, dlts_add]
        have h1 := ih (a + 1) b (fun n => f (n + 1)) (dlt g) (by omega) (hf.shift 1) hg.dlt n
        have h2 := ih a (b + 1) (dlt f) g (by omega) hf.dlt hg n
        show dlts (a + 1 + b) (fun n => f (n + 1) * dlt g n) n + dlts (a + 1 + b) (fun n => dlt f n * g n) n = _
        rw [h1, show a + 1 + b = a + (b + 1) by omega, h2, dlts_shift0 hf, dlts_dlt, dlts_dlt]
        rw [show cN (a + 1) (b + 1) = cN (a + 1) b + cN a (b + 1) by rw [cN], Int.add_mul]

/-- The degree, by differences. -/
theorem deg_lead {p : List Int} (hv : validP p = true) {k : Nat} (h : degP p = (k : Int)) : Flat (k + 1) (val p) ∧ dlts k (val p) 0 ≠ 0 := by
  cases hz : allB p 0
  · obtain ⟨j, x, hj, hl, _, hx, hx0⟩ := degP_some hv hz
    have hjk : j = k := by rw [hj] at h; omega
    subst hjk
    have e : val (trimP p) = val p := funext fun n => trimP_val hv n
    rw [← e]
    refine ⟨by rw [← hl]; exact flat_val _, ?_⟩
    rw [dlts_val]
    have hd : (trimP p).drop j = [x] := by
      obtain ⟨h1, h2⟩ := List.getElem?_eq_some_iff.1 hx
      rw [List.drop_eq_getElem_cons h1, h2, List.drop_eq_nil_of_le (by omega)]
    rw [hd]
    simpa [val, valF, chs] using hx0
  · have := (degP_zero hv hz).1
    rw [this] at h
    omega

theorem deg_cases {p : List Int} (hv : validP p = true) : degP p = -1 ∨ ∃ k : Nat, degP p = (k : Int) ∧ k < p.length := by
  cases hz : allB p 0
  · obtain ⟨j, x, hj, _, hlt, _⟩ := degP_some hv hz
    exact .inr ⟨j, hj, hlt⟩
  · exact .inl (degP_zero hv hz).1

theorem deg_zero_val {p : List Int} (hv : validP p = true) (h : degP p = -1) (n : Int) : val p n = 0 := by
  have hz : allB p 0 = true := by
    cases hz : allB p 0
    · obtain ⟨j, x, hj, _⟩ := degP_some hv hz
      rw [hj] at h; omega
    · rfl
  obtain ⟨h1, h2⟩ := (allB_zero p (validP_iff.1 hv).1).1 hz
  rw [← trimP_val hv, trimP, if_pos hv, h1]
  cases p with
  | nil => rfl
  | cons d r =>
    simp at h2
    subst h2
    simp [val, valF]

theorem mul_deg {p q s : List Int} (h : mulP p q = some s) {a b : Nat} (ha : degP p = (a : Int)) (hb : degP q = (b : Int)) : degP s = (a : Int) + b := by
  obtain ⟨hp, hq, hs, _, hv⟩ := mulP_some h
  obtain ⟨f1, f2⟩ := deg_lead hp ha
  obtain ⟨g1, g2⟩ := deg_lead hq hb
  have e : val s = fun n => val p n * val q n := funext hv
  have hF : Flat (a + b + 1) (val s) := by rw [e]; exact Flat.mul _ (a + 1) (b + 1) _ _ f1 g1 (by omega)
  have hN : dlts (a + b) (val s) 0 ≠ 0 := by
    rw [e, dlts_mul (a + b) a b _ _ (Nat.le_refl _) f1 g1]
    exact Int.mul_ne_zero (by have := cN_pos a b; omega) (Int.mul_ne_zero f2 g2)
  rcases deg_cases hs with h0 | ⟨k, hk, _⟩
  · exact absurd (Flat.of_zero (L := a + b) (deg_zero_val hs h0) 0) hN
  · obtain ⟨s1, s2⟩ := deg_lead hs hk
    rw [hk]
    by_cases h1 : k < a + b
    · exact absurd (s1.mono (M := a + b) (by omega) 0) hN
    · by_cases h2 : a + b < k
      · exact absurd (hF.mono (M := k) (by omega) 0) s2
      · omega

theorem mulP_comm (p q : List Int) : mulP q p = mulP p q := by
  rw [mulP, mulP, Nat.add_comm q.length p.length]
  rw [tab_congr (f := fun n => val q n * val p n) (g := fun n => val p n * val q n) fun i _ => Int.mul_comm _ _]
  cases validP p <;> cases validP q <;> rfl

end Go.Proofs.Ytkmblobfamhoiaa
