/- Contracts of the laws' helpers on engines: sizes, copies, comparisons. -/
import Derived.Test.YtinhcdppdnmlgaaDoorGrE
import Derived.Test.YtinhcdppdnmlgaaDoorGrG
import Derived.BigQuiet
import Derived.Deep.QuietTactic
namespace Go.Proofs.YtinhcdppdnmlgaaDoor
open Go.RowKit
set_option maxRecDepth 4000

/-- What the look at sizes returns: none, or a number that tells that no string is too long. -/
def SzR (cs : List ByteArray) (w : World) (e : Ending) (w' : World) : Prop :=
  ∃ r : Int, e = .returned (.int .i64 r) ∧ r ≤ 1048576 ∧ (r = -1 ∨ 0 ≤ r ∧ Short cs) ∧ w = w'

theorem short_take {cs : List ByteArray} {k : Nat} {s : ByteArray} (h : Short (cs.take k)) (hs : cs[k]? = some s) (hz : s.size ≤ 1048576) : Short (cs.take (k + 1)) := by
  obtain ⟨hk, rfl⟩ := List.getElem?_eq_some_iff.1 hs
  intro x hx
  rw [List.take_succ_eq_append_getElem hk] at hx
  rcases List.mem_append.1 hx with hx | hx
  · exact h x hx
  · simp at hx; subst hx; exact hz

/-- The same, through the struct. -/
def SzE (cs : List ByteArray) (w : World) (e : Ending) (w' : World) : Prop :=
  ∃ r : Int, e = .returned (.int .i64 r) ∧ r ≤ 1048576 ∧ (r = -1 ∨ 0 ≤ r ∧ Short cs) ∧ Below w.heap.size w w'

theorem take_succ_eqG {α : Type} {xs ys : List α} {k : Nat} {x : α} (h : xs.take k = ys.take k) (hx : xs[k]? = some x) (hy : ys[k]? = some x) : xs.take (k + 1) = ys.take (k + 1) := by
  obtain ⟨h1, h2⟩ := List.getElem?_eq_some_iff.1 hx
  obtain ⟨h3, h4⟩ := List.getElem?_eq_some_iff.1 hy
  rw [List.take_succ_eq_append_getElem h1, List.take_succ_eq_append_getElem h3, h, h2, h4]

/-- Equal lists of strings. -/
theorem eqStringS_same (n : Nat) (A A' : Option Addr) (c c' : Nat) (xs : List ByteArray) (w : World) (hn : xs.length = n) (h : SS w A xs) (h' : SS w A' xs) :
    Calls Tryd.prog 41 #[.slice A n c, .slice A' n c'] w fun e w' => e = .returned (.bool true) ∧ Below w.heap.size w w' := by
  subst hn
  have hl1 := h.len
  have Hh := hd h
  have Hh' := hd h'
  have hlen' : ((xs.length : Int) != xs.length) = false := by simp
  clear h h'
  go_enter Tryd.func41, Tryd.ntmps41
  go_wp2
  go_loopw [5] (fun i wr => ∃ k : Nat, k ≤ xs.length ∧ i = .int .i64 k ∧ Below w.heap.size w wr) (fun i _ => xs.length - (intOf i).toNat)
  case atStart => exact ⟨0, by omega, rfl, Below.refl _ _⟩
  case round =>
    obtain ⟨k, hk, rfl, hbel⟩ := hrel
    by_cases hlt : k < xs.length
    · obtain ⟨x, b, off, hx, rfl, hbw, hc⟩ := (Hh.out.below hbel).at_ hlt
      obtain ⟨y, b', off', hy, rfl, hbw', hc'⟩ := (Hh'.out.below hbel).at_ hlt
      obtain rfl : x = y := by rw [hx] at hy; injection hy
      clear hx hy
      go_wp2
      go_quiet (fail)
      go_wp2
      go_roundw
      case rel => exact ⟨k + 1, by omega, by go_num, below_drewN hbel _⟩
      case measure => simp [intOf]; omega
    · go_wp2
      go_ret
      exact ⟨rfl, hbel⟩

theorem eqEngine_same (n : Nat) (A A' : Option Addr) (c c' : Nat) (xs : List ByteArray) (w : World) (hn : xs.length = n) (h : SS w A xs) (h' : SS w A' xs) :
    Calls Tryd.prog 21 #[.agg #[.slice A n c], .agg #[.slice A' n c']] w fun e w' => e = .returned (.bool true) ∧ Below w.heap.size w w' := by
  have Hh := hd h
  have Hh' := hd h'
  have Hb := hd ((((Below.refl w.heap.size w).alloc (Nat.le_refl _) (.cells #[.slice A n c] 37)).alloc (by simp) (.cells #[.slice A' n c'] 37)))
  clear h h'
  go_enter Tryd.func21, Tryd.ntmps21
  go_wp2_with fail
  refine (eqStringS_same n A A' c c' xs _ hn ((Hh.out.alloc _).alloc _) ((Hh'.out.alloc _).alloc _)).mono ?_
  rintro e w1 ⟨rfl, b1⟩
  have Hb2 := hd (Hb.out.trans (b1.mono (by simp; omega)))
  clear b1
  go_wp2
  go_ret
  exact ⟨rfl, Hb2.out⟩

end Go.Proofs.YtinhcdppdnmlgaaDoor
