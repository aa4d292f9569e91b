/- Contracts of the laws' helpers on engines: marks. -/
import Derived.Test.YtinhcdppdnmlgaaDoorLwA
import Derived.Deep.RegionLaw
namespace Go.Proofs.YtinhcdppdnmlgaaDoor
open Go.RowKit
set_option maxRecDepth 4000

/-- One digit, as a string. -/
def oneD (n : Nat) : ByteArray := ⟨#[UInt8.ofNat (48 + n % 10)]⟩
/-- The digits of n ahead of what is there, as the loop lays them. -/
def mtG (n : Nat) (acc : ByteArray) : ByteArray := if _h : n = 0 then acc else mtG (n / 10) (oneD n ++ acc)
termination_by n
decreasing_by omega
/-- The mark of a number. -/
def mt (n : Nat) : ByteArray := (⟨#[109]⟩ : ByteArray) ++ mtG n ⟨#[]⟩

theorem mtG_zero (acc : ByteArray) : mtG 0 acc = acc := by rw [mtG]; simp
theorem mtG_step {n : Nat} (h : 0 < n) (acc : ByteArray) : mtG n acc = mtG (n / 10) (oneD n ++ acc) := by
  rw [mtG, dif_neg (by omega)]

theorem run_oneD (w : World) (v : Nat) : (convert 28 9 (.slice (some ⟨w.heap.size, 0, none⟩) 1 1)).run Tryd.prog (w.alloc (.cells #[.int .u8 (48 + (v : Int) % 10)] 5)) = .ok (.string (oneD v)) (w.alloc (.cells #[.int .u8 (48 + (v : Int) % 10)] 5)) := by
  have := run_convert_bytes_back (P := Tryd.prog) (w.alloc (.cells #[.int .u8 (48 + (v : Int) % 10)] 5)) 28 9 5 ⟨w.heap.size, 0, none⟩ 1 [UInt8.ofNat (48 + v % 10)] Tryd.underlying28 Tryd.underlying5 Tryd.underlying9 (fun j hj => by
    have : j = 0 := by simpa using hj
    subst this
    have hadd : (⟨w.heap.size, 0, none⟩ : Addr).add 0 = ⟨w.heap.size, 0, none⟩ := by simp [Addr.add]
    rw [hadd, new_cell]
    simp only [List.getElem_cons_zero, digit_toNat]
    congr 2)
  exact this

/-- A bound of what is left behind j digits. -/
def lft : Nat → Nat
  | 0 => 1000000000
  | j + 1 => lft j / 10
theorem lft_ten : ∀ d, lft (10 + d) = 0
  | 0 => by decide
  | d + 1 => by rw [show 10 + (d + 1) = 10 + d + 1 by omega, lft, lft_ten d]
theorem lft_lt {j : Nat} (h : 0 < lft j) : j < 10 := by
  rcases Nat.lt_or_ge j 10 with h1 | h1
  · exact h1
  · obtain ⟨d, rfl⟩ : ∃ d, j = 10 + d := ⟨j - 10, by omega⟩
    rw [lft_ten] at h; omega

theorem oneD_size (n : Nat) : (oneD n).size = 1 := rfl

set_option maxRecDepth 100000 in
set_option maxHeartbeats 800000 in
theorem markText_any (k : Nat) (w : World) (hk : 1 ≤ k) (hk' : k ≤ 1000000000) :
    Calls Tryd.prog 56 #[.int .i64 k] w fun e w' => e = .returned (.string (mt k)) ∧ Below w.heap.size w w' := by
  go_enter Tryd.func56, Tryd.ntmps56
  go_wp2
  go_loopw [0, 3] (fun x o wr => ∃ (m : Nat) (acc : ByteArray), (m ≤ lft acc.size ∧ acc.size ≤ 10) ∧ x = .int .i64 m ∧ o = .string acc ∧ mtG m acc = mtG k ⟨#[]⟩ ∧ Below w.heap.size w wr) (fun x _ _ => (intOf x).toNat)
  case atStart => exact ⟨k, ⟨#[]⟩, ⟨hk', by decide⟩, rfl, rfl, rfl, Below.refl _ _⟩
  case round =>
    obtain ⟨m, acc, ⟨hm, hac⟩, rfl, rfl, hg, hbel⟩ := hrel
    have Hg := hd hg
    have Hm := hd hm
    have hm9 : m ≤ 1000000000 := by
      have h1 : ∀ j, lft j ≤ 1000000000 := fun j => by
        induction j with
        | zero => decide
        | succ j ih => rw [lft]; omega
      have := h1 acc.size
      omega
    clear hg hm
    by_cases hm0 : 0 < m
    · have Hs := hd ((mtG_step hm0 acc).symm.trans Hg.out)
      have ha9 : acc.size < 10 := lft_lt (by have := Hm.out; omega)
      have Hlf : Hid (m / 10 ≤ lft (oneD m ++ acc).size ∧ (oneD m ++ acc).size ≤ 10) := hd (by
        rw [ByteArray.size_append, oneD_size, Nat.add_comm 1, lft]
        have := Hm.out
        omega)
      have hos : (oneD m).size = 1 := rfl
      have q1 := run_oneD wr m
      have e1 : IntKind.u8.wrap (48 + (m : Int) % 10) = 48 + (m : Int) % 10 := by
        simp only [IntKind.wrap, IntKind.bits, IntKind.signed]
        simp
        omega
      have Hb := hd (hbel.alloc hbel.size (.cells #[.int .u8 (48 + (m : Int) % 10)] 5))
      go_wp2
      go_roundw
      case rel => exact ⟨m / 10, oneD m ++ acc, Hlf.out, by go_num, rfl, Hs.out, Hb.out⟩
      case measure => simp [intOf]; omega
    · obtain rfl : m = 0 := by omega
      have Hf : Hid ((⟨#[109]⟩ : ByteArray) ++ acc = mt k) := hd (by rw [mt, ← Hg.out, mtG_zero])
      go_wp2
      go_ret
      rw [Hf.out]
      exact ⟨rfl, hbel⟩

/-- The marks from k on. -/
def mks (k : Nat) (n : Nat) : List ByteArray := (List.range n).map fun i => mt (k + i)
theorem mks_length (k n : Nat) : (mks k n).length = n := by simp [mks]
theorem mks_at {k n i : Nat} (h : i < n) : (mks k n)[i]? = some (mt (k + i)) := by simp [mks, h]

set_option maxHeartbeats 1600000 in
theorem markStringS_any (B n : Nat) (A : Option Addr) (c : Nat) (xs : List ByteArray) (k : Nat) (w : World) (hn : xs.length = n) (h : OwnS 9 B w A c xs) (hB : B ≤ w.heap.size) (hl : n ≤ 1048576) (hk : 1 ≤ k) (hk' : k ≤ 10000000) :
    Calls Tryd.prog 42 #[.slice A n c, .int .i64 k] w fun e w' =>
      e = .returned (.int .i64 ((k + n : Nat) : Int)) ∧ OwnS 9 B w' A c (mks k n) ∧ Below B w w' ∧ ∀ g, (∀ a, A = some a → a.block ≠ g) → g < w.heap.size → w'.heap[g]? = w.heap[g]? := by
  have Hh := hd h
  have Hn := hd hn
  clear h hn
  go_enter Tryd.func42, Tryd.ntmps42
  go_wp2
  go_loopw [1, 5] (fun q i wr => ∃ (j : Nat) (ys : List ByteArray), j ≤ n ∧ i = .int .i64 j ∧ q = .int .i64 ((k + j : Nat) : Int) ∧ ys.length = n ∧ ys.take j = (mks k n).take j ∧ OwnS 9 B wr A c ys ∧ (Below B w wr ∧ ∀ g, (∀ a, A = some a → a.block ≠ g) → g < w.heap.size → wr.heap[g]? = w.heap[g]?))
    (fun _ i _ => n - (intOf i).toNat)
  case atStart => exact ⟨0, xs, by omega, rfl, by simp, Hn.out, rfl, Hh.out, Below.refl _ _, fun _ _ _ => rfl⟩
  case round =>
    obtain ⟨j, ys, hj, rfl, rfl, hyl, hyt, hown, hbel⟩ := hrel
    have Hyl := hd hyl
    have Hyt := hd hyt
    have Hown := hd hown
    have Hbel := hd hbel
    clear hyl hyt hown hbel
    by_cases hlt : j < n
    · have hkj : (1 : Int) ≤ ((k + j : Nat) : Int) := by omega
      have hkj2 : ((k + j : Nat) : Int) ≤ 100000000 := by omega
      have hszB : B ≤ wr.heap.size := Nat.le_trans hB Hbel.out.1.size
      go_wp2_with fail
      refine (markText_any (k + j) _ (by omega) (by omega)).mono ?_
      rintro e w2 ⟨rfl, b2⟩
      have Hown := hd (Hown.out.below b2)
      obtain ⟨g, o, ho, rfl, hco, hfo⟩ := Hown.out.at_ (k := j) (by rw [Hyl.out]; exact hlt)
      have hgB : B ≤ g := (Hown.out.lt rfl).1
      have Hb2 : Hid (Below B w (w2.setCell ⟨g, j, none⟩ (.string (mt (k + j)))) ∧ ∀ g', (∀ a, some (⟨g, 0, none⟩ : Addr) = some a → a.block ≠ g') → g' < w.heap.size → (w2.setCell ⟨g, j, none⟩ (.string (mt (k + j)))).heap[g']? = w.heap[g']?) := hd (by
        refine ⟨(Hbel.out.1.trans (b2.mono hszB)).setCell (p := ⟨g, j, none⟩) hgB _, fun g' hg' hlt' => ?_⟩
        have h1 := hg' ⟨g, 0, none⟩ rfl
        rw [Below.heap_setCell _ _ _ _ (by simpa using fun e => h1 e.symm), b2.block g' (Nat.lt_of_lt_of_le hlt' Hbel.out.1.size)]
        exact Hbel.out.2 g' hg' hlt')
      clear b2 ho
      go_wp2
      go_roundw
      case rel => exact ⟨j + 1, ys.set j (mt (k + j)), by omega, by go_num, by go_num, by rw [List.length_set]; exact Hyl.out, take_set_succ (by rw [Hyl.out]; exact hlt) Hyt.out (mks_at hlt), Hown.out.set j _, Hb2.out⟩
      case measure => simp [intOf]; omega
    · obtain rfl : j = n := by omega
      have Hf : Hid (ys = mks k j) := hd (by
        have h1 := Hyt.out
        rwa [List.take_of_length_le (by rw [Hyl.out]; omega), List.take_of_length_le (by rw [mks_length]; omega)] at h1)
      go_wp2
      go_ret
      exact ⟨rfl, Hf.out ▸ Hown.out, Hbel.out.1, Hbel.out.2⟩

set_option maxHeartbeats 1600000 in
theorem heldStringS_any (n : Nat) (A : Option Addr) (c : Nat) (k : Nat) (w : World) (h : SS w A (mks k n)) (hl : n ≤ 1048576) (hk : 1 ≤ k) (hk' : k ≤ 10000000) :
    Calls Tryd.prog 43 #[.slice A n c, .int .i64 k] w fun e w' => e = .returned (.int .i64 ((k + n : Nat) : Int)) ∧ Below w.heap.size w w' := by
  have Hh := hd h
  clear h
  go_enter Tryd.func43, Tryd.ntmps43
  go_wp2
  go_loopw [1, 5] (fun q i wr => ∃ j : Nat, j ≤ n ∧ i = .int .i64 j ∧ q = .int .i64 ((k + j : Nat) : Int) ∧ Below w.heap.size w wr) (fun _ i _ => n - (intOf i).toNat)
  case atStart => exact ⟨0, by omega, rfl, by simp, Below.refl _ _⟩
  case round =>
    obtain ⟨j, hj, rfl, rfl, hbel⟩ := hrel
    have Hbel := hd hbel
    clear hbel
    by_cases hlt : j < n
    · obtain ⟨x, b, off, hx, rfl, hb, hc⟩ := (Hh.out.below Hbel.out).at_ (k := j) (by rw [mks_length]; exact hlt)
      obtain rfl : x = mt (k + j) := by rw [mks_at hlt] at hx; injection hx with hx; exact hx.symm
      clear hx
      have hkj : (1 : Int) ≤ ((k + j : Nat) : Int) := by omega
      have hkj2 : ((k + j : Nat) : Int) ≤ 100000000 := by omega
      go_wp2
      go_region_law ((go_simp; go_at_call 56; refine (markText_any (k + j) _ (by omega) (by omega)).mono ?_; rintro e w2 ⟨rfl, b2⟩; have Hb2 := hd (Hbel.out.drew.trans (b2.mono Hbel.out.size)); obtain ⟨x', b', off', hx', hA', hb', hc'⟩ := (Hh.out.below Hb2.out).at_ (k := j) (by rw [mks_length]; exact hlt); simp only [Option.some.injEq, Addr.mk.injEq, and_true] at hA'; obtain ⟨hA1, hA2⟩ := hA'; subst hA1 hA2; have hxe : x' = mt (k + j) := Option.some.inj (hx'.symm.trans (mks_at hlt)); subst hxe; clear b2 hx'))
      all_goals
        go_wp2
        go_roundw
        case rel => exact ⟨j + 1, by omega, by go_num, by go_num, Hb2.out⟩
        case measure => simp [intOf]; omega
    · obtain rfl : j = n := by omega
      go_wp2
      go_ret
      exact ⟨rfl, Hbel.out⟩

theorem markEngine_any (B n : Nat) (A : Option Addr) (c : Nat) (xs : List ByteArray) (k : Nat) (w : World) (hn : xs.length = n) (h : OwnS 9 B w A c xs) (hB : B ≤ w.heap.size) (hl : n ≤ 1048576) (hk : 1 ≤ k) (hk' : k ≤ 10000000) :
    Calls Tryd.prog 22 #[.agg #[.slice A n c], .int .i64 k] w fun e w' =>
      e = .returned (.int .i64 ((k + n : Nat) : Int)) ∧ OwnS 9 B w' A c (mks k n) ∧ Below B w w' ∧ ∀ g, (∀ a, A = some a → a.block ≠ g) → g < w.heap.size → w'.heap[g]? = w.heap[g]? := by
  have Hh := hd (h.alloc (.cells #[.slice A n c] 37))
  clear h
  go_enter Tryd.func22, Tryd.ntmps22
  go_wp2_with fail
  refine (markStringS_any B n A c xs k _ hn Hh.out (by simp; omega) hl hk hk').mono ?_
  rintro e w1 ⟨rfl, own, bel, rest⟩
  have Own := hd own
  have Bel : Hid (Below B w w1 ∧ ∀ g, (∀ a, A = some a → a.block ≠ g) → g < w.heap.size → w1.heap[g]? = w.heap[g]?) := hd
    ⟨((Below.refl w.heap.size w).alloc (Nat.le_refl _) (.cells #[.slice A n c] 37)).mono hB |>.trans bel, fun g hg hlt => (rest g hg (by simp; omega)).trans (Below.heap_alloc _ _ _ hlt)⟩
  clear own bel rest
  go_wp2
  go_ret
  exact ⟨rfl, Own.out, Bel.out.1, Bel.out.2⟩

theorem heldEngine_any (n : Nat) (A : Option Addr) (c : Nat) (k : Nat) (w : World) (h : SS w A (mks k n)) (hl : n ≤ 1048576) (hk : 1 ≤ k) (hk' : k ≤ 10000000) :
    Calls Tryd.prog 23 #[.agg #[.slice A n c], .int .i64 k] w fun e w' => e = .returned (.int .i64 ((k + n : Nat) : Int)) ∧ Below w.heap.size w w' := by
  have Hh := hd (h.alloc (.cells #[.slice A n c] 37))
  have Hb := hd ((Below.refl w.heap.size w).alloc (Nat.le_refl _) (.cells #[.slice A n c] 37))
  clear h
  go_enter Tryd.func23, Tryd.ntmps23
  go_wp2_with fail
  refine (heldStringS_any n A c k _ Hh.out hl hk hk').mono ?_
  rintro e w1 ⟨rfl, b1⟩
  have Hb2 := hd (Hb.out.trans (b1.mono (by simp)))
  clear b1
  go_wp2
  go_ret
  exact ⟨rfl, Hb2.out⟩

end Go.Proofs.YtinhcdppdnmlgaaDoor
