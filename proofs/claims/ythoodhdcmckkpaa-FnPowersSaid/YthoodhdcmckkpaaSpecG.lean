/- Contracts of the reference's sums and multiples of polynomials. -/
import Derived.Test.YthoodhdcmckkpaaSpecF
import Derived.Test.YthoodhdcmckkpaaPolyF
namespace Go.Proofs.Ythoodhdcmckkpaa
open Go.RowKit

set_option maxHeartbeats 800000 in
theorem sScalePoly_any (A : Option Addr) (c : Nat) (p : List Int) (n : Int) (w : World) (h : SI w A p) :
    Calls Try.prog 52 #[.slice A p.length c, .int .i64 n] w fun e w' => RetO 3 w.heap.size w (scaleP p n) e w' := by
  obtain ⟨i0, hi, hz0, hz1, hz2⟩ := info_parts infoI
  have Hh := hd h
  clear h
  cases hv : validP p
  · have Hf : Hid (scaleP p n = none) := hd (by simp [scaleP, hv])
    go_enter Try.func52, Try.ntmps52
    go_wp2_with (go_at_call 76; refine (sPolyValid_any A c p _ Hh.out).mono ?_; rintro e w' ⟨rfl, rfl⟩)
    go_ret2
    exact RetO.lit Hf.out (Below.refl _ _)
  cases hn : inB n 100000
  · have Hf : Hid (scaleP p n = none) := hd (by simp [scaleP, hn])
    have hn' : in2 n (-100000) 100000 = false := hn
    go_enter Try.func52, Try.ntmps52
    go_wp2_with (first
      | (go_at_call 76; refine (sPolyValid_any A c p _ Hh.out).mono ?_; rintro e w' ⟨rfl, rfl⟩)
      | (go_at_call 80; refine (l1In_any n (-100000) 100000 _).mono ?_; rintro e w' ⟨rfl, rfl⟩))
    go_ret2
    exact RetO.lit Hf.out (Below.refl _ _)
  obtain ⟨h1, h7, hx⟩ := validP_iff.1 hv
  obtain ⟨hn1, hn2⟩ := inB_iff.1 hn
  have hn' : in2 n (-100000) 100000 = true := hn
  have Hf : Hid (scaleP p n = chk (p.map (· * n))) := hd (by simp [scaleP, hv, hn])
  have Hx := hd hx
  have Htl : Hid ((p.map (· * n)).length = p.length) := hd (by simp)
  have Hbel0 := hd ((Below.refl w.heap.size w).alloc (Nat.le_refl _) (.cells #[] 3))
  have Hown0 := hd (OwnI.lit0 3 w)
  clear hx
  go_enter Try.func52, Try.ntmps52
  go_wp2_with (first
    | (go_at_call 76; refine (sPolyValid_any A c p _ Hh.out).mono ?_; rintro e w' ⟨rfl, rfl⟩)
    | (go_at_call 80; refine (l1In_any n (-100000) 100000 _).mono ?_; rintro e w' ⟨rfl, rfl⟩))
  go_loopw [6, 7] (fun r i wr => ∃ (k : Nat) (A' : Option Addr) (c' : Nat), k ≤ p.length ∧ i = .int .i64 k ∧ r = .slice A' k c' ∧ OwnI 3 w.heap.size wr A' c' ((p.map (· * n)).take k) ∧ Below w.heap.size w wr)
    (fun _ i _ => p.length - (intOf i).toNat)
  case atStart => exact ⟨0, _, _, by omega, rfl, rfl, Hown0.out, Hbel0.out⟩
  case round =>
    obtain ⟨k, A', c', hk, rfl, rfl, hown, hbel⟩ := hrel
    have Hown := hd hown
    clear hown
    by_cases hlt : k < p.length
    · obtain ⟨x, b, off, hx, rfl, hb, hc⟩ := (Hh.out.below hbel).at_ hlt
      have hxb := Hx.out x (List.mem_of_getElem? hx)
      have hb1 := mul_bd n x 100000 100000 (by decide) hn1 hn2 hxb.1 hxb.2
      have hb2 : -10000000000 ≤ n * x := by omega
      have hb3 : n * x ≤ 10000000000 := by omega
      have Htk : Hid (((p.map (· * n)).take k).length = k) := hd (by rw [List.length_take, Htl.out]; omega)
      have HS : Hid ((p.map (· * n)).take (k + 1) = (p.map (· * n)).take k ++ [n * x]) := hd (by
        rw [List.take_succ_eq_append_getElem (by rw [Htl.out]; exact hlt)]
        congr 1
        obtain ⟨h2, rfl⟩ := List.getElem?_eq_some_iff.1 hx
        rw [List.getElem_map, Int.mul_comm])
      have hsz : w.heap.size ≤ wr.heap.size := hbel.size
      clear hx hb1
      go_wp2_with (at_builtin; refine wpList_app1 rfl _ _ 23 3 rfl w.heap.size i0 Try.underlying23 hi hz0 hz1 hz2 k A' c' _ wr.heap.size (n * x) rfl rfl Htk.out (new_cell _ _ _) (Hown.out.alloc _) (by omega) (by simp; omega) ?_; intro A2 c2 w2 hown2 hbel2 _)
      have Hown2 := hd hown2
      have Hbel2 := hd ((hbel.alloc hsz _).trans hbel2)
      clear hown2 hbel2
      go_wp2
      go_roundw
      case rel => exact ⟨k + 1, A2, c2, by omega, by go_num, rfl, by rw [HS.out]; exact Hown2.out, Hbel2.out⟩
      case measure => simp [intOf]; omega
    · obtain rfl : k = p.length := by omega
      have Ho : Hid (OwnI 3 w.heap.size wr A' c' (p.map (· * n))) := hd (by
        have := Hown.out
        rwa [List.take_of_length_le (by rw [Htl.out]; omega)] at this)
      go_wp2_with fail
      refine (sPolyValid_n _ A' c' (p.map (· * n)) _ Htl.out Ho.out.si).mono ?_
      rintro e w' ⟨rfl, rfl⟩
      cases hv2 : validP (p.map (· * n))
      · have Hg : Hid (scaleP p n = none) := hd (by rw [Hf.out, chk, hv2]; rfl)
        go_wp2
        go_ret2
        exact RetO.lit Hg.out hbel
      · have Hg : Hid (scaleP p n = some (p.map (· * n))) := hd (by rw [Hf.out, chk, hv2]; rfl)
        go_wp2
        go_ret2
        exact RetO.some_ Hg.out Ho.out Htl.out.symm hbel

theorem sAddPolys_loop_step {p : List Int} {m k : Nat} {x : Int} (f : Nat → Int) (hgx : p.getD k 0 = x) :
    ((tab m fun j => f j + if j < k then p.getD j 0 else 0).set k (f k + x)) = tab m fun j => f j + if j < k + 1 then p.getD j 0 else 0 := by
  rw [tab_set]
  refine tab_ext fun j _ => ?_
  by_cases hj : j = k
  · subst hj; rw [if_pos rfl, if_pos (by omega), hgx]
  · rw [if_neg hj]
    by_cases hj2 : j < k
    · rw [if_pos hj2, if_pos (by omega)]
    · rw [if_neg hj2, if_neg (by omega)]

theorem tab_end {p : List Int} {m k : Nat} (f : Nat → Int) (hk : k = p.length) :
    (tab m fun j => f j + if j < k then p.getD j 0 else 0) = tab m fun j => f j + p.getD j 0 := by
  subst hk
  refine tab_ext fun j _ => ?_
  by_cases hj : j < p.length
  · simp [hj]
  · simp [hj]

theorem getD_bd {p : List Int} (hx : ∀ x ∈ p, -100000 ≤ x ∧ x ≤ 100000) (k : Nat) : -100000 ≤ p.getD k 0 ∧ p.getD k 0 ≤ 100000 := by
  by_cases hkp : k < p.length
  · rw [getD_of (List.getElem?_eq_getElem hkp)]; exact hx _ (List.getElem_mem hkp)
  · rw [List.getD_eq_getElem?_getD, List.getElem?_eq_none (by omega)]; simp

set_option maxHeartbeats 1600000 in
theorem sAddPolys_any (A A' : Option Addr) (c c' : Nat) (p q : List Int) (w : World) (h : SI w A p) (h' : SI w A' q) :
    Calls Try.prog 50 #[.slice A p.length c, .slice A' q.length c'] w fun e w' => RetO 3 w.heap.size w (addP p q) e w' := by
  obtain ⟨i0, hi, hz0, hz1, hz2⟩ := info_parts infoI
  have Hh := hd h
  have Hh' := hd h'
  clear h h'
  cases hv : validP p
  · have Hf : Hid (addP p q = none) := hd (by simp [addP, hv])
    go_enter Try.func50, Try.ntmps50
    go_wp2_with (go_at_call 76; refine (sPolyValid_any A c p _ Hh.out).mono ?_; rintro e w' ⟨rfl, rfl⟩)
    go_ret2
    exact RetO.lit Hf.out (Below.refl _ _)
  cases hv' : validP q
  · have Hf : Hid (addP p q = none) := hd (by simp [addP, hv'])
    go_enter Try.func50, Try.ntmps50
    go_wp2_with fail
    refine (sPolyValid_any A c p _ Hh.out).mono ?_
    rintro e w' ⟨rfl, rfl⟩
    go_wp2_with fail
    refine (sPolyValid_any A' c' q _ Hh'.out).mono ?_
    rintro e w' ⟨rfl, rfl⟩
    go_wp2
    go_ret2
    exact RetO.lit Hf.out (Below.refl _ _)
  obtain ⟨h1, h7, hx⟩ := validP_iff.1 hv
  obtain ⟨h1', h7', hx'⟩ := validP_iff.1 hv'
  obtain ⟨m, hm⟩ : ∃ m, m = max p.length q.length := ⟨_, rfl⟩
  have Hf : Hid (addP p q = chk (tab m fun k => p.getD k 0 + q.getD k 0)) := hd (by simp [addP, hv, hv', hm])
  have hm7 : m ≤ 7 := by omega
  have hmp : p.length ≤ m := by omega
  have hmq : q.length ≤ m := by omega
  have Hm := hd hm
  have Hx := hd hx
  have Hx' := hd hx'
  have Htl := hd (tab_length m fun k => p.getD k 0 + q.getD k 0)
  clear hm hx hx'
  by_cases hmx : p.length < q.length
  · go_enter Try.func50, Try.ntmps50
    go_wp2_with fail
    refine (sPolyValid_any A c p _ Hh.out).mono ?_
    rintro e w' ⟨rfl, rfl⟩
    go_wp2_with fail
    refine (sPolyValid_any A' c' q _ Hh'.out).mono ?_
    rintro e w' ⟨rfl, rfl⟩
    go_wp2_with (at_make; refine wpList_make_full _ rfl _ _ 23 rfl w.heap.size 3 i0 (.int .i64 0) 1 Try.underlying23 hi hz0 hz1 .i64 .i64 _ _ m rfl rfl (by have := Hm.out; omega) (by have := Hm.out; omega) (by rw [hz2]; omega) (by unfold maxLen; omega) (Nat.le_refl _) ?_; intro w1 hown hgrow)
    have how0 := OW.made hown (by omega)
    have hbel0 : Below w.heap.size w w1 := (Below.refl _ _).grown hgrow (Nat.le_refl _) (by simp)
    clear hown hgrow
    go_loopw [7] (fun i wr => ∃ (k : Nat), k ≤ p.length ∧ i = .int .i64 k ∧ OW 3 w.heap.size wr w.heap.size m (tab m fun j => 0 + if j < k then p.getD j 0 else 0) ∧ Below w.heap.size w wr)
      (fun i _ => p.length - (intOf i).toNat)
    case atStart => exact ⟨0, by omega, rfl, by rw [tab_zero] at how0; simpa using how0, hbel0⟩
    case round =>
      clear how0 hbel0
      obtain ⟨k, hk, rfl, how, hbel⟩ := hrel
      by_cases hlt : k < p.length
      · obtain ⟨x, b, off, hx, rfl, hb, hc⟩ := (Hh.out.below hbel).at_ hlt
        have hxb := Hx.out x (List.mem_of_getElem? hx)
        obtain ⟨hx1, hx2⟩ := hxb
        have Hgx := hd (getD_of hx)
        obtain ⟨o, ho, hco⟩ := how.cell (k := k) (by omega)
        obtain rfl : o = 0 := by rw [tab_at _ (by omega)] at ho; simpa using ho.symm
        have hfo := how.frozen k
        have hkm : k < m := by omega
        have e3 : IntKind.i64.wrap (0 + x) = 0 + x := IntWalk.i64_in _ (by omega)
        have e4 : IntKind.i64.wrap x = x := IntWalk.i64_in _ (by omega)
        clear ho hx
        go_wp2
        go_region_law (fail)
        all_goals
          clear e3 e4
          go_wp2
          go_roundw
          case rel => exact ⟨k + 1, by omega, by go_num, (by
            have h2 := how.set k (0 + x)
            rw [sAddPolys_loop_step (fun _ => 0) Hgx.out] at h2
            try simp only [Int.zero_add] at h2 ⊢
            exact h2), (hbel.setCell (Nat.le_refl _) _).drew⟩
          case measure => simp [intOf]; omega
      · obtain rfl : k = p.length := by omega
        rw [tab_end (fun _ => 0) rfl, tab_ext (g := fun j => p.getD j 0 + if j < 0 then q.getD j 0 else 0) (fun j _ => by simp)] at how
        have Ho := hd how
        have Hb := hd hbel
        clear how hbel
        go_wp2
        go_loopw [8] (fun i wr => ∃ (k : Nat), k ≤ q.length ∧ i = .int .i64 k ∧ OW 3 w.heap.size wr w.heap.size m (tab m fun j => p.getD j 0 + if j < k then q.getD j 0 else 0) ∧ Below w.heap.size w wr)
          (fun i _ => q.length - (intOf i).toNat)
        case atStart => exact ⟨0, by omega, rfl, Ho.out, Hb.out⟩
        case round =>
          clear Ho Hb
          obtain ⟨k, hk, rfl, how, hbel⟩ := hrel
          by_cases hlt : k < q.length
          · obtain ⟨x, b, off, hx, rfl, hb, hc⟩ := (Hh'.out.below hbel).at_ hlt
            have hxb := Hx'.out x (List.mem_of_getElem? hx)
            obtain ⟨hx1, hx2⟩ := hxb
            have Hgx := hd (getD_of hx)
            obtain ⟨o, ho, hco⟩ := how.cell (k := k) (by omega)
            have hpo : o = p.getD k 0 := by rw [tab_at _ (by omega)] at ho; simpa using ho.symm
            have hpb : -100000 ≤ o ∧ o ≤ 100000 := by rw [hpo]; exact getD_bd Hx.out k
            obtain ⟨hp1, hp2⟩ := hpb
            have Hpo := hd hpo
            have hfo := how.frozen k
            have hkm : k < m := by omega
            have e3 : IntKind.i64.wrap (o + x) = o + x := IntWalk.i64_in _ (by omega)
            clear ho hx hpo
            go_wp2
            go_region_law (fail)
            all_goals
              clear e3
              go_wp2
              go_roundw
              case rel => exact ⟨k + 1, by omega, by go_num, (by
                have h2 := how.set k (p.getD k 0 + x)
                rw [sAddPolys_loop_step (fun j => p.getD j 0) Hgx.out, ← Hpo.out] at h2
                try simp only [Int.zero_add] at h2 ⊢
                exact h2), (hbel.setCell (Nat.le_refl _) _).drew⟩
              case measure => simp [intOf]; omega
          · obtain rfl : k = q.length := by omega
            rw [tab_end (fun j => p.getD j 0) rfl] at how
            have Ho := hd how.own
            go_wp2_with fail
            refine (sPolyValid_n _ _ _ (tab m fun j => p.getD j 0 + q.getD j 0) _ Htl.out Ho.out.si).mono ?_
            rintro e w' ⟨rfl, rfl⟩
            cases hv2 : validP (tab m fun j => p.getD j 0 + q.getD j 0)
            · have Hg : Hid (addP p q = none) := hd (by rw [Hf.out, chk, hv2]; rfl)
              go_wp2
              go_ret2
              exact RetO.lit Hg.out hbel
            · have Hg : Hid (addP p q = some (tab m fun j => p.getD j 0 + q.getD j 0)) := hd (by rw [Hf.out, chk, hv2]; rfl)
              go_wp2
              go_ret2
              exact RetO.some_ Hg.out Ho.out Htl.out.symm hbel
  · go_enter Try.func50, Try.ntmps50
    go_wp2_with fail
    refine (sPolyValid_any A c p _ Hh.out).mono ?_
    rintro e w' ⟨rfl, rfl⟩
    go_wp2_with fail
    refine (sPolyValid_any A' c' q _ Hh'.out).mono ?_
    rintro e w' ⟨rfl, rfl⟩
    go_wp2_with (at_make; refine wpList_make_full _ rfl _ _ 23 rfl w.heap.size 3 i0 (.int .i64 0) 1 Try.underlying23 hi hz0 hz1 .i64 .i64 _ _ m rfl rfl (by have := Hm.out; omega) (by have := Hm.out; omega) (by rw [hz2]; omega) (by unfold maxLen; omega) (Nat.le_refl _) ?_; intro w1 hown hgrow)
    have how0 := OW.made hown (by omega)
    have hbel0 : Below w.heap.size w w1 := (Below.refl _ _).grown hgrow (Nat.le_refl _) (by simp)
    clear hown hgrow
    go_loopw [7] (fun i wr => ∃ (k : Nat), k ≤ p.length ∧ i = .int .i64 k ∧ OW 3 w.heap.size wr w.heap.size m (tab m fun j => 0 + if j < k then p.getD j 0 else 0) ∧ Below w.heap.size w wr)
      (fun i _ => p.length - (intOf i).toNat)
    case atStart => exact ⟨0, by omega, rfl, by rw [tab_zero] at how0; simpa using how0, hbel0⟩
    case round =>
      clear how0 hbel0
      obtain ⟨k, hk, rfl, how, hbel⟩ := hrel
      by_cases hlt : k < p.length
      · obtain ⟨x, b, off, hx, rfl, hb, hc⟩ := (Hh.out.below hbel).at_ hlt
        have hxb := Hx.out x (List.mem_of_getElem? hx)
        obtain ⟨hx1, hx2⟩ := hxb
        have Hgx := hd (getD_of hx)
        obtain ⟨o, ho, hco⟩ := how.cell (k := k) (by omega)
        obtain rfl : o = 0 := by rw [tab_at _ (by omega)] at ho; simpa using ho.symm
        have hfo := how.frozen k
        have hkm : k < m := by omega
        have e3 : IntKind.i64.wrap (0 + x) = 0 + x := IntWalk.i64_in _ (by omega)
        have e4 : IntKind.i64.wrap x = x := IntWalk.i64_in _ (by omega)
        clear ho hx
        go_wp2
        go_region_law (fail)
        all_goals
          clear e3 e4
          go_wp2
          go_roundw
          case rel => exact ⟨k + 1, by omega, by go_num, (by
            have h2 := how.set k (0 + x)
            rw [sAddPolys_loop_step (fun _ => 0) Hgx.out] at h2
            try simp only [Int.zero_add] at h2 ⊢
            exact h2), (hbel.setCell (Nat.le_refl _) _).drew⟩
          case measure => simp [intOf]; omega
      · obtain rfl : k = p.length := by omega
        rw [tab_end (fun _ => 0) rfl, tab_ext (g := fun j => p.getD j 0 + if j < 0 then q.getD j 0 else 0) (fun j _ => by simp)] at how
        have Ho := hd how
        have Hb := hd hbel
        clear how hbel
        go_wp2
        go_loopw [8] (fun i wr => ∃ (k : Nat), k ≤ q.length ∧ i = .int .i64 k ∧ OW 3 w.heap.size wr w.heap.size m (tab m fun j => p.getD j 0 + if j < k then q.getD j 0 else 0) ∧ Below w.heap.size w wr)
          (fun i _ => q.length - (intOf i).toNat)
        case atStart => exact ⟨0, by omega, rfl, Ho.out, Hb.out⟩
        case round =>
          clear Ho Hb
          obtain ⟨k, hk, rfl, how, hbel⟩ := hrel
          by_cases hlt : k < q.length
          · obtain ⟨x, b, off, hx, rfl, hb, hc⟩ := (Hh'.out.below hbel).at_ hlt
            have hxb := Hx'.out x (List.mem_of_getElem? hx)
            obtain ⟨hx1, hx2⟩ := hxb
            have Hgx := hd (getD_of hx)
            obtain ⟨o, ho, hco⟩ := how.cell (k := k) (by omega)
            have hpo : o = p.getD k 0 := by rw [tab_at _ (by omega)] at ho; simpa using ho.symm
            have hpb : -100000 ≤ o ∧ o ≤ 100000 := by rw [hpo]; exact getD_bd Hx.out k
            obtain ⟨hp1, hp2⟩ := hpb
            have Hpo := hd hpo
            have hfo := how.frozen k
            have hkm : k < m := by omega
            have e3 : IntKind.i64.wrap (o + x) = o + x := IntWalk.i64_in _ (by omega)
            clear ho hx hpo
            go_wp2
            go_region_law (fail)
            all_goals
              clear e3
              go_wp2
              go_roundw
              case rel => exact ⟨k + 1, by omega, by go_num, (by
                have h2 := how.set k (p.getD k 0 + x)
                rw [sAddPolys_loop_step (fun j => p.getD j 0) Hgx.out, ← Hpo.out] at h2
                try simp only [Int.zero_add] at h2 ⊢
                exact h2), (hbel.setCell (Nat.le_refl _) _).drew⟩
              case measure => simp [intOf]; omega
          · obtain rfl : k = q.length := by omega
            rw [tab_end (fun j => p.getD j 0) rfl] at how
            have Ho := hd how.own
            go_wp2_with fail
            refine (sPolyValid_n _ _ _ (tab m fun j => p.getD j 0 + q.getD j 0) _ Htl.out Ho.out.si).mono ?_
            rintro e w' ⟨rfl, rfl⟩
            cases hv2 : validP (tab m fun j => p.getD j 0 + q.getD j 0)
            · have Hg : Hid (addP p q = none) := hd (by rw [Hf.out, chk, hv2]; rfl)
              go_wp2
              go_ret2
              exact RetO.lit Hg.out hbel
            · have Hg : Hid (addP p q = some (tab m fun j => p.getD j 0 + q.getD j 0)) := hd (by rw [Hf.out, chk, hv2]; rfl)
              go_wp2
              go_ret2
              exact RetO.some_ Hg.out Ho.out Htl.out.symm hbel

end Go.Proofs.Ythoodhdcmckkpaa
