/- Helpers of the laws over code on engines: engines that are the same, turns with their result written out. -/
import Derived.Test.YtkmblobfamhoiaaGrE
import Derived.Test.YtkmblobfamhoiaaGrI
import Derived.Deep.QuietTactic
import Derived.BigQuiet
namespace Go.Proofs.Ytkmblobfamhoiaa
open Go.RowKit
set_option maxRecDepth 4000

theorem Cs.drewN {w w1 : World} {l : List (Nat × Value)} (h : Cs w w1 l) (n : Nat) : Cs w (w1.drewN n) l := ⟨below_drewN h.1 n, h.2⟩

set_option maxHeartbeats 800000 in
theorem deSame_same (n : Nat) (A A' : Option Addr) (c c' : Nat) (xs : List ByteArray) (w : World) (hn : xs.length = n) (h : SS w A xs) (h' : SS w A' xs) :
    Calls Try.prog 34 #[.agg #[.slice A n c], .agg #[.slice A' n c']] w fun e w' => e = .returned (.bool true) ∧ Below w.heap.size w w' := by
  subst hn
  have hl1 := h.len
  have Hh := hd h
  have Hh' := hd h'
  have hlen' : ((xs.length : Int) != xs.length) = false := by simp
  have C0 := hd (Cs.two w (.slice A xs.length c) (.slice A' xs.length c') 36 36)
  obtain ⟨⟨c1, f1, -⟩, ⟨c2, f2, -⟩⟩ := C0.out.at2
  clear h h'
  go_enter Try.func34, Try.ntmps34
  go_wp2
  go_loopw [5] (fun i wr => ∃ k : Nat, k ≤ xs.length ∧ i = .int .i64 k ∧ Cs w wr [(w.heap.size + 1, .slice A' xs.length c'), (w.heap.size, .slice A xs.length c)]) (fun i _ => xs.length - (intOf i).toNat)
  case atStart => exact ⟨0, by omega, rfl, C0.out⟩
  case round =>
    clear C0 c1 f1 c2 f2
    obtain ⟨k, hk, rfl, cc⟩ := hrel
    have C1 := hd cc
    clear cc
    by_cases hlt : k < xs.length
    · obtain ⟨x, b, off, hx, rfl, hbw, hc⟩ := (Hh.out.below C1.out.1).at_ hlt
      obtain ⟨y, b', off', hy, rfl, hbw', hc'⟩ := (Hh'.out.below C1.out.1).at_ hlt
      obtain rfl : x = y := by rw [hx] at hy; injection hy
      obtain ⟨⟨c1, f1, -⟩, ⟨c2, f2, -⟩⟩ := C1.out.at2
      have e1 : (k : Int) < xs.length := by omega
      have e2 : (0 : Int) ≤ k := by omega
      clear hx hy
      go_wp2
      go_quiet (fail)
      go_wp2
      go_roundw
      case rel => exact ⟨k + 1, by omega, by go_num, C1.out.drewN _⟩
      case measure => simp [intOf]; omega
    · obtain ⟨⟨c1, f1, -⟩, ⟨c2, f2, -⟩⟩ := C1.out.at2
      go_wp2
      go_ret
      exact ⟨rfl, C1.out.1⟩

theorem Sizes.short {cs : List ByteArray} {m : Nat} (h : Sizes cs m) (hm : m ≤ 1048576) : Short cs := fun s hs => Nat.le_trans (h s hs) hm

theorem eng_short' {cs : List ByteArray} (h : engV cs = true) : Short cs := by
  obtain ⟨he, -, h12, -, -⟩ := engV_vals h
  rw [he]; exact short_eng h12 _

/-- Turned forth what was turned back, and so on: of an engine's numbers. -/
theorem turnF_turnF {f g : List Int → List Int} {cs z : List ByteArray} (hv : engV cs = true) (hf : ∀ vs, (f vs).length = vs.length) (hz : z = eng (hsz cs) (f (cvs cs))) (hg : ∀ W a b, Same W a b → Same W (g a) (g b)) :
    engV z = true ∧ turnF g z = some (eng (hsz cs) (g (f (cvs cs)))) := by
  obtain ⟨he, h1, h12, hn1, hn7⟩ := engV_vals hv
  have hvz : engV z = true := by rw [hz]; exact engV_eng h1 h12 (by rw [hf]; exact hn1) (by rw [hf]; exact hn7)
  refine ⟨hvz, ?_⟩
  rw [turnF_some hvz]
  have hh : hsz z = hsz cs := by rw [hz]; exact hsz_eng (by rw [hf]; exact hn1)
  rw [hh]
  congr 1
  apply eng_congr
  apply hg
  refine ⟨by rw [hz]; simp [cvs, eng, hf], fun i => ?_⟩
  rw [hz]
  by_cases hi : i < (f (cvs cs)).length
  · have e1 : (f (cvs cs))[i]? = some (f (cvs cs))[i] := List.getElem?_eq_getElem hi
    have e2 : (cvs (eng (hsz cs) (f (cvs cs))))[i]? = some ((f (cvs cs))[i] % ten (hsz cs)) := by
      rw [cvs, List.getElem?_map, eng_at e1, Option.map_some, cval_showC]
    rw [getD_at e2, getD_at e1, Int.emod_emod_of_dvd _ (Int.dvd_refl _)]
  · rw [getD_none (by rw [cvs, List.length_map, eng_length]; omega), getD_none (by omega)]

theorem Same.many {W : Nat} {a b : List Int} (N : Int) (h : Same W a b) : Same W (manyV a N) (manyV b N) :=
  ⟨by rw [manyV_length, manyV_length, h.1], fun i => by
    by_cases hi : i < a.length
    · rw [getD_at (manyV_at N hi), getD_at (manyV_at N (by rw [← h.1]; exact hi))]
      exact (h.drop i).val N
    · rw [getD_none (by rw [manyV_length]; omega), getD_none (by rw [manyV_length, ← h.1]; omega)]⟩
theorem Same.skew {W : Nat} {a b : List Int} (h : Same W a b) : Same W (skewV a) (skewV b) :=
  ⟨by rw [skewV_length, skewV_length, h.1], fun i => by rw [skewV_getD, skewV_getD]; exact (h.drop i).val _⟩
theorem Same.unsk {W : Nat} {a b : List Int} (h : Same W a b) : Same W (unskV a) (unskV b) := by
  have hg : ∀ (a b : List Int) (i : Nat), Same W a b → Same W (unskG i a) (unskG i b) := by
    intro a
    induction a with
    | nil => intro b i h; have : b = [] := List.eq_nil_of_length_eq_zero (by have := h.1; simpa using this.symm); subst this; exact ⟨rfl, fun _ => rfl⟩
    | cons x r ih =>
      intro b i h
      cases b with
      | nil => have := h.1; simp at this
      | cons y s =>
        have h0 := h.2 0
        simp only [List.getD_cons_zero] at h0
        have ht : Same W r s := ⟨by have := h.1; simpa using this, fun j => by have := h.2 (j + 1); simpa using this⟩
        have h2 := ih s (i + 1) ht
        refine ⟨by simp [unskG, h2.1], fun j => ?_⟩
        cases j with
        | zero =>
          simp only [unskG, List.getD_cons_zero]
          have h3 := valF_same (W := W) (-((i / 2 : Nat) : Int)) _ _ 1 h2
          rw [Int.sub_emod, h0, h3, ← Int.sub_emod]
        | succ j => simpa [unskG] using h2.2 j
  exact hg a b 0 h

end Go.Proofs.Ytkmblobfamhoiaa
