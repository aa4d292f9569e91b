/- Contracts of the laws' helpers on engines: marks. -/
import Derived.Test.YtinhcdppdnmlgaaLwA
import Derived.Deep.RegionLaw
namespace Go.Proofs.Ytinhcdppdnmlgaa
open Go.RowKit
set_option maxRecDepth 4000

/-- One digit, as a string. -/
def oneD (n : Nat) : ByteArray := ⟨#[UInt8.ofNat (48 + n % 10)]⟩
/-- The digits of n ahead of what is there, as the loop lays them. -/
def mtG (n : Nat) (acc : ByteArray) : ByteArray := if _h : n = 0 then acc else mtG (n / 10) (oneD n ++ acc)
termination_by n
decreasing_by omega
/-- The mark of a number. -/
def mt (n : Nat) : ByteArray := (⟨#[109]⟩ : ByteArray) ++ mtG n ⟨#[]⟩

theorem mtG_zero (acc : ByteArray) : mtG 0 acc = acc := by rw [mtG]; simp
theorem mtG_step {n : Nat} (h : 0 < n) (acc : ByteArray) : mtG n acc = mtG (n / 10) (oneD n ++ acc) := by
  rw [mtG, dif_neg (by omega)]

theorem run_oneD (w : World) (v : Nat) : (convert 46 9 (.slice (some ⟨w.heap.size, 0, none⟩) 1 1)).run Try.prog (w.alloc (.cells #[.int .u8 (48 + (v : Int) % 10)] 5)) = .ok (.string (oneD v)) (w.alloc (.cells #[.int .u8 (48 + (v : Int) % 10)] 5)) := by
  have := run_convert_bytes_back (P := Try.prog) (w.alloc (.cells #[.int .u8 (48 + (v : Int) % 10)] 5)) 46 9 5 ⟨w.heap.size, 0, none⟩ 1 [UInt8.ofNat (48 + v % 10)] Try.underlying46 Try.underlying5 Try.underlying9 (fun j hj => by
    have : j = 0 := by simpa using hj
    subst this
    have hadd : (⟨w.heap.size, 0, none⟩ : Addr).add 0 = ⟨w.heap.size, 0, none⟩ := by simp [Addr.add]
    rw [hadd, new_cell]
    simp only [List.getElem_cons_zero, digit_toNat]
    congr 2)
  exact this

/-- A bound of what is left behind j digits. -/
def lft : Nat → Nat
  | 0 => 1000000000
  | j + 1 => lft j / 10
theorem lft_ten : ∀ d, lft (10 + d) = 0
  | 0 => by decide
  | d + 1 => by rw [show 10 + (d + 1) = 10 + d + 1 by omega, lft, lft_ten d]
theorem lft_lt {j : Nat} (h : 0 < lft j) : j < 10 := by
  rcases Nat.lt_or_ge j 10 with h1 | h1
  · exact h1
  · obtain ⟨d, rfl⟩ : ∃ d, j = 10 + d := ⟨j - 10, by omega⟩
    rw [lft_ten] at h; omega

theorem oneD_size (n : Nat) : (oneD n).size = 1 := rfl

/-- The marks from k on. -/
def mks (k : Nat) (n : Nat) : List ByteArray := (List.range n).map fun i => mt (k + i)
theorem mks_length (k n : Nat) : (mks k n).length = n := by simp [mks]
theorem mks_at {k n i : Nat} (h : i < n) : (mks k n)[i]? = some (mt (k + i)) := by simp [mks, h]

end Go.Proofs.Ytinhcdppdnmlgaa
