/- Plain mathematics: differences of neighbors, first differences, and what the program's functions on polynomials reckon. -/
import Derived.Test.YtcalheieakppmaaPureA
namespace Go.Proofs.Ytcalheieakppmaa

def nbr : List Int → List Int
  | a :: b :: r => (b - a) :: nbr (b :: r)
  | _ => []

theorem nbr_length : ∀ zs : List Int, (nbr zs).length = zs.length - 1
  | [] => rfl
  | [_] => rfl
  | _ :: b :: r => by simp [nbr, nbr_length (b :: r)]

theorem nbr_at : ∀ (zs : List Int) (k : Nat) (x y : Int), zs[k]? = some x → zs[k+1]? = some y → (nbr zs)[k]? = some (y - x)
  | [], k, x, y, h, _ => by simp at h
  | [_], k, x, y, _, h => by simp at h
  | a :: b :: r, 0, x, y, h, h' => by simp at h h'; subst h h'; simp [nbr]
  | a :: b :: r, k + 1, x, y, h, h' => by
    simp only [nbr, List.getElem?_cons_succ]
    exact nbr_at (b :: r) k x y (by simpa using h) (by simpa using h')

theorem nbr_bd : ∀ (zs : List Int) (B : Int), (∀ x ∈ zs, -B ≤ x ∧ x ≤ B) → ∀ x ∈ nbr zs, -(2 * B) ≤ x ∧ x ≤ 2 * B
  | [], B, _, x, hx => by simp [nbr] at hx
  | [_], B, _, x, hx => by simp [nbr] at hx
  | a :: b :: r, B, h, x, hx => by
    simp only [nbr, List.mem_cons] at hx
    rcases hx with rfl | hx
    · have h1 := h a (by simp)
      have h2 := h b (by simp)
      omega
    · exact nbr_bd (b :: r) B (fun y hy => h y (List.mem_cons_of_mem _ hy)) x hx

theorem nbr_short (zs : List Int) (h : zs.length < 2) : nbr zs = [] := by
  rcases zs with _ | ⟨a, _ | ⟨b, r⟩⟩
  · rfl
  · rfl
  · simp at h; omega

/-- The first number of a list, of its differences, and so on, n times at most. -/
def fdN : Nat → List Int → List Int
  | 0, _ => []
  | _ + 1, [] => []
  | n + 1, a :: r => a :: fdN n (nbr (a :: r))
def fd (zs : List Int) : List Int := fdN zs.length zs

theorem fdN_length : ∀ (n : Nat) (zs : List Int), zs.length ≤ n → (fdN n zs).length = zs.length
  | 0, zs, h => by simp [fdN]; omega
  | n + 1, [], _ => by simp [fdN]
  | n + 1, a :: r, h => by
    simp only [fdN, List.length_cons]
    rw [fdN_length n _ (by rw [nbr_length]; simp at h ⊢; omega), nbr_length]
    simp
theorem fd_length (zs : List Int) : (fd zs).length = zs.length := fdN_length _ _ (Nat.le_refl _)

/-- The row of the k-th differences. -/
def nbrs : Nat → List Int → List Int
  | 0, zs => zs
  | k + 1, zs => nbr (nbrs k zs)

theorem nbrs_length (k : Nat) (zs : List Int) : (nbrs k zs).length = zs.length - k := by
  induction k with
  | zero => rfl
  | succ k ih => rw [nbrs, nbr_length, ih]; omega

theorem nbrs_nbr (k : Nat) (zs : List Int) : nbrs k (nbr zs) = nbrs (k + 1) zs := by
  induction k with
  | zero => rfl
  | succ k ih => rw [nbrs, ih]; rfl

theorem fdN_at : ∀ (n : Nat) (zs : List Int) (k : Nat) (x : Int), zs.length ≤ n → (nbrs k zs)[0]? = some x → (fdN n zs)[k]? = some x
  | 0, zs, k, x, h, hx => by
    have : (nbrs k zs).length = 0 := by rw [nbrs_length]; omega
    rw [List.eq_nil_of_length_eq_zero this] at hx; simp at hx
  | n + 1, [], k, x, h, hx => by
    have : (nbrs k ([] : List Int)).length = 0 := by rw [nbrs_length]; simp
    rw [List.eq_nil_of_length_eq_zero this] at hx; simp at hx
  | n + 1, a :: r, 0, x, h, hx => by simp [nbrs] at hx; simp [fdN, hx]
  | n + 1, a :: r, k + 1, x, h, hx => by
    simp only [fdN, List.getElem?_cons_succ]
    exact fdN_at n _ k x (by rw [nbr_length]; simp at h ⊢; omega) (by rw [nbrs_nbr]; exact hx)
theorem fd_at (zs : List Int) (k : Nat) (x : Int) (hx : (nbrs k zs)[0]? = some x) : (fd zs)[k]? = some x := fdN_at _ _ _ _ (Nat.le_refl _) hx

theorem nbrs_bd (zs : List Int) (B : Int) (h : ∀ x ∈ zs, -B ≤ x ∧ x ≤ B) : ∀ k, ∀ x ∈ nbrs k zs, -(2 ^ k * B) ≤ x ∧ x ≤ 2 ^ k * B
  | 0 => by simpa [nbrs] using h
  | k + 1 => by
    intro x hx
    have := nbr_bd _ (2 ^ k * B) (nbrs_bd zs B h k) x hx
    have e : (2 : Int) ^ (k + 1) * B = 2 * (2 ^ k * B) := by rw [Int.pow_succ, Int.mul_comm (2 ^ k), Int.mul_assoc]
    rw [e]; exact this

def chk (p : List Int) : Option (List Int) := if validP p then some p else none

end Go.Proofs.Ytcalheieakppmaa
