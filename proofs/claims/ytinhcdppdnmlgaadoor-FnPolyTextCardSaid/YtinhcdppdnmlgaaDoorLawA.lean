/- Contracts of the laws' own helpers: copies, comparisons and marks of lists of numbers. -/
import Derived.Test.YtinhcdppdnmlgaaDoorGrF
namespace Go.Proofs.YtinhcdppdnmlgaaDoor
open Go.RowKit
set_option maxRecDepth 4000

section
variable {E : TypeId} {B : Nat} {w w' : World} {A : Option Addr} {c : Nat} {zs : List Int}

theorem OwnI.at_ (h : OwnI E B w A c zs) {k : Nat} (hk : k < zs.length) :
    ∃ g x, zs[k]? = some x ∧ A = some ⟨g, 0, none⟩ ∧ w.cell? ⟨g, k, none⟩ = some (.int .i64 x) ∧ w.frozen? ⟨g, k, none⟩ = false := by
  rcases h.2.2 with ⟨_, h0⟩ | ⟨g, cap, cur, hv, _⟩
  · omega
  · simp only [Value.slice.injEq] at hv
    obtain ⟨rfl, _, rfl⟩ := hv
    refine ⟨g, zs[k], by simp [hk], rfl, ?_, h.2.frozenAt k⟩
    rw [h.2.cellAt k (by omega)]
    simp [hk]

theorem OwnI.set {g : Nat} (h : OwnI E B w (some ⟨g, 0, none⟩) c zs) (k : Nat) (v : Int) :
    OwnI E B (w.setCell ⟨g, k, none⟩ (.int .i64 v)) (some ⟨g, 0, none⟩) c (zs.set k v) := by
  have hs := h.2.stored k (.int .i64 v)
  refine ⟨by rw [List.length_set]; exact h.1, ?_⟩
  rw [List.length_set, List.map_set]
  exact hs.1

theorem OwnI.keep_lo {row : Option Nat} (h : OwnI E B w A c zs) (hg : w.grownBy w' row) (hr : ∀ r, row = some r → r < B) : OwnI E B w' A c zs := by
  refine ⟨h.1, h.2.kept hg ?_⟩
  cases hv : (Value.slice A zs.length c).ownBlock with
  | none => exact .inl rfl
  | some g =>
    right
    intro e
    have := (h.2.lt g hv).1
    have := hr g e.symm
    omega

theorem OwnI.keep_hi {row : Option Nat} {U : Nat} (h : OwnI E B w A c zs) (hu : ∀ g, (Value.slice A zs.length c).ownBlock = some g → g < U) (hg : w.grownBy w' row) (hr : ∀ r, row = some r → U ≤ r) : OwnI E B w' A c zs := by
  refine ⟨h.1, h.2.kept hg ?_⟩
  cases hv : (Value.slice A zs.length c).ownBlock with
  | none => exact .inl rfl
  | some g =>
    right
    intro e
    have := hu g hv
    have := hr g e.symm
    omega
end

set_option maxHeartbeats 400000 in
theorem toIntS_any (A : Option Addr) (c : Nat) (zs : List Int) (w : World) (h : SI w A zs) (hl : zs.length ≤ 1048576) :
    Calls Tryd.prog 18 #[.slice A zs.length c] w fun e w' => RetI 3 w.heap.size w zs e w' := by
  obtain ⟨i0, hi, hz0, hz1, hz2⟩ := info_parts infoI
  have Hh := hd h
  clear h
  go_enter Tryd.func18, Tryd.ntmps18
  go_wp2_with (at_make; refine wpList_make_full _ rfl _ _ 22 rfl w.heap.size 3 i0 (.int .i64 0) 1 Tryd.underlying22 hi hz0 hz1 .i64 .i64 _ _ zs.length rfl rfl rfl rfl (by rw [hz2]; omega) (by unfold maxLen; omega) (Nat.le_refl _) ?_; intro w1 hown hgrow)
  have how0 := OW.made hown (by omega)
  have hbel0 : Below w.heap.size w w1 := (Below.refl _ _).grown hgrow (Nat.le_refl _) (by simp)
  clear hown hgrow
  go_loopw [4] (fun i wr => ∃ (k : Nat) (xs : List Int), k ≤ zs.length ∧ i = .int .i64 k ∧ xs.take k = zs.take k ∧ OW 3 w.heap.size wr w.heap.size zs.length xs ∧ Below w.heap.size w wr)
    (fun i _ => zs.length - (intOf i).toNat)
  case atStart => exact ⟨0, List.replicate zs.length 0, by omega, rfl, rfl, how0, hbel0⟩
  case round =>
    clear how0 hbel0
    obtain ⟨k, xs, hk, rfl, hxt, how, hbel⟩ := hrel
    have Hxt := hd hxt
    clear hxt
    by_cases hlt : k < zs.length
    · obtain ⟨x, b, off, hx, rfl, hbw, hc⟩ := (Hh.out.below hbel).at_ hlt
      obtain ⟨o, ho, hco⟩ := how.cell hlt
      have hfo := how.frozen k
      have Hx := hd hx
      clear hx ho
      go_wp2
      go_roundw
      case rel => exact ⟨k + 1, xs.set k x, by omega, by go_num, take_set_succ (by have := how.1; omega) Hxt.out Hx.out, how.set k _, hbel.setCell (Nat.le_refl _) _⟩
      case measure => simp [intOf]; omega
    · have hke : k = zs.length := by omega
      have hxs : Hid (xs = zs) := hd (by
        have h1 := Hxt.out
        rw [List.take_of_length_le (by have := how.1; omega), List.take_of_length_le (by omega)] at h1
        exact h1)
      clear hke
      go_wp2
      go_ret
      exact RetI.ow how hxs.out hbel

theorem take_succ_eq {xs ys : List Int} {k : Nat} {x : Int} (h : xs.take k = ys.take k) (hx : xs[k]? = some x) (hy : ys[k]? = some x) : xs.take (k + 1) = ys.take (k + 1) := by
  obtain ⟨h1, h2⟩ := List.getElem?_eq_some_iff.1 hx
  obtain ⟨h3, h4⟩ := List.getElem?_eq_some_iff.1 hy
  rw [List.take_succ_eq_append_getElem h1, List.take_succ_eq_append_getElem h3, h, h2, h4]

set_option maxHeartbeats 400000 in
theorem eqIntS_any (A A' : Option Addr) (c c' : Nat) (xs ys : List Int) (w : World) (h : SI w A xs) (h' : SI w A' ys) :
    Calls Tryd.prog 9 #[.slice A xs.length c, .slice A' ys.length c'] w fun e w' => e = .returned (.bool (decide (xs = ys))) ∧ Below w.heap.size w w' := by
  have hl1 := h.len
  have hl2 := h'.len
  have Hh := hd h
  have Hh' := hd h'
  clear h h'
  by_cases hlen : xs.length = ys.length
  · have hlen' : ((xs.length : Int) != ys.length) = false := by simp [hlen]
    have Hlen := hd hlen
    clear hlen
    go_enter Tryd.func9, Tryd.ntmps9
    go_wp2
    go_loopw [5] (fun i wr => ∃ k : Nat, k ≤ xs.length ∧ i = .int .i64 k ∧ xs.take k = ys.take k ∧ Below w.heap.size w wr) (fun i _ => xs.length - (intOf i).toNat)
    case atStart => exact ⟨0, by omega, rfl, rfl, Below.refl _ _⟩
    case round =>
      obtain ⟨k, hk, rfl, ht, hbel⟩ := hrel
      have Ht := hd ht
      clear ht
      by_cases hlt : k < xs.length
      · have hlt' : k < ys.length := by have := Hlen.out; omega
        obtain ⟨x, b, off, hx, rfl, hbw, hc⟩ := (Hh.out.below hbel).at_ hlt
        obtain ⟨y, b', off', hy, rfl, hbw', hc'⟩ := (Hh'.out.below hbel).at_ hlt'
        have Hx := hd hx
        have Hy := hd hy
        clear hx hy
        by_cases hxy : x = y
        · subst hxy
          have hb : (x != x) = false := by simp
          go_wp2
          go_quiet (fail)
          go_wp2
          go_roundw
          case rel => exact ⟨k + 1, by omega, by go_num, take_succ_eq Ht.out Hx.out Hy.out, below_drewN hbel _⟩
          case measure => simp [intOf]; omega
        · have hb : (x != y) = true := by simp [hxy]
          have Hf : Hid (decide (xs = ys) = false) := hd (by
            rw [decide_eq_false_iff_not]
            rintro rfl
            have h1 := Hx.out
            have h2 := Hy.out
            rw [h1] at h2
            injection h2 with h2
            exact hxy h2)
          clear hxy
          go_wp2
          go_quiet (fail)
          go_wp2
          go_ret
          exact ⟨ret_bool Hf.out.symm, below_drewN hbel _⟩
      · have Hf : Hid (decide (xs = ys) = true) := hd (by
          rw [decide_eq_true_iff]
          have h1 := Ht.out
          have h2 := Hlen.out
          rwa [List.take_of_length_le (by omega), List.take_of_length_le (by omega)] at h1)
        go_wp2
        go_ret
        exact ⟨ret_bool Hf.out.symm, hbel⟩
  · have hlen' : ((xs.length : Int) != ys.length) = true := by simp; omega
    have Hf : Hid (decide (xs = ys) = false) := hd (by
      rw [decide_eq_false_iff_not]
      rintro rfl
      exact hlen rfl)
    clear hlen
    go_enter Tryd.func9, Tryd.ntmps9
    go_wp2
    go_ret
    exact ⟨ret_bool Hf.out.symm, Below.refl _ _⟩

def marks (k : Int) (n : Nat) : List Int := tab n fun i => k + i

set_option maxHeartbeats 400000 in
theorem markIntS_any (B : Nat) (A : Option Addr) (c : Nat) (zs : List Int) (k : Int) (w : World) (h : OwnI 3 B w A c zs) (hl : zs.length ≤ 1048576) (hk0 : 0 ≤ k) (hk1 : k ≤ 1000000000) :
    Calls Tryd.prog 10 #[.slice A zs.length c, .int .i64 k] w fun e w' =>
      e = .returned (.int .i64 (k + zs.length)) ∧ OwnI 3 B w' A c (marks k zs.length) ∧ w.grownBy w' (Value.slice A zs.length c).ownBlock := by
  have Hh := hd h
  clear h
  have Hml := hd (tab_length zs.length fun i => k + i)
  go_enter Tryd.func10, Tryd.ntmps10
  go_wp2
  go_loopw [1, 5] (fun q i wr => ∃ (j : Nat) (xs : List Int), j ≤ zs.length ∧ i = .int .i64 j ∧ q = .int .i64 (k + j) ∧ xs.length = zs.length ∧ xs.take j = (marks k zs.length).take j ∧ OwnI 3 B wr A c xs ∧ w.grownBy wr (Value.slice A zs.length c).ownBlock)
    (fun _ i _ => zs.length - (intOf i).toNat)
  case atStart => exact ⟨0, zs, by omega, rfl, by simp, rfl, rfl, Hh.out, World.grownBy.refl _ _⟩
  case round =>
    obtain ⟨j, xs, hj, rfl, rfl, hxl, hxt, hown, hgr⟩ := hrel
    have Hxl := hd hxl
    have Hxt := hd hxt
    have Hown := hd hown
    have Hgr := hd hgr
    clear hxl hxt hown hgr
    by_cases hlt : j < zs.length
    · obtain ⟨g, x, hx, rfl, hc, hf⟩ := Hown.out.at_ (k := j) (by rw [Hxl.out]; exact hlt)
      clear hx
      go_wp2
      go_roundw
      case rel =>
        refine ⟨j + 1, xs.set j (k + j), by omega, by go_num, by go_num, by rw [List.length_set]; exact Hxl.out, take_set_succ (by rw [Hxl.out]; exact hlt) Hxt.out (tab_at _ hlt), Hown.out.set j _, ?_⟩
        exact ⟨Hgr.out.os, Hgr.out.tape, Hgr.out.output, by simpa [World.setCell] using Hgr.out.size, fun i hi hne => (Below.heap_setCell _ _ _ _ (by
          intro e
          exact hne (by rw [e]; rfl))).trans (Hgr.out.block i hi hne)⟩
      case measure => simp [intOf]; omega
    · obtain rfl : j = zs.length := by omega
      have Hf : Hid (xs = marks k zs.length) := hd (by
        have h1 := Hxt.out
        rwa [List.take_of_length_le (by rw [Hxl.out]; omega), List.take_of_length_le (by rw [marks, tab_length]; omega)] at h1)
      go_wp2
      go_ret
      exact ⟨rfl, Hf.out ▸ Hown.out, Hgr.out⟩

theorem marks_length (k : Int) (n : Nat) : (marks k n).length = n := tab_length _ _

set_option maxHeartbeats 400000 in
theorem heldIntS_any (n : Nat) (A : Option Addr) (c : Nat) (k : Int) (w : World) (h : SI w A (marks k n)) (hl : n ≤ 1048576) (hk0 : 0 ≤ k) (hk1 : k ≤ 1000000000) :
    Calls Tryd.prog 11 #[.slice A n c, .int .i64 k] w fun e w' => e = .returned (.int .i64 (k + n)) ∧ w = w' := by
  have Hh := hd h
  clear h
  go_enter Tryd.func11, Tryd.ntmps11
  go_wp2
  go_loop [1, 5] (fun q i => ∃ j : Nat, j ≤ n ∧ i = .int .i64 j ∧ q = .int .i64 (k + j)) (fun _ i => n - (intOf i).toNat)
  case atStart => exact ⟨0, by omega, rfl, by simp⟩
  case round =>
    obtain ⟨j, hj, rfl, rfl⟩ := hrel
    by_cases hlt : j < n
    · obtain ⟨x, b, off, hx, rfl, hbw, hc⟩ := Hh.out.at_ (k := j) (by rw [marks_length]; exact hlt)
      have hxe : x = k + j := by
        rw [marks, tab_at _ hlt] at hx
        injection hx with hx
        exact hx.symm
      subst hxe
      clear hx
      have hb : ((k + j : Int) != (k + j : Int)) = false := by simp
      go_wp2
      go_round
      case rel => exact ⟨j + 1, by omega, by go_num, by go_num⟩
      case measure => simp [intOf]; omega
    · obtain rfl : j = n := by omega
      go_wp2
      go_ret
      exact ⟨rfl, rfl⟩

end Go.Proofs.YtinhcdppdnmlgaaDoor
