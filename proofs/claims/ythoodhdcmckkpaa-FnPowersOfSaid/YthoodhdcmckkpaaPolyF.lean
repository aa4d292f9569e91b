/- Contracts of the program's sums and multiples of polynomials. -/
import Derived.Test.YthoodhdcmckkpaaPolyE
namespace Go.Proofs.Ythoodhdcmckkpaa
open Go.RowKit

theorem tab_ext {m : Nat} {f g : Nat → Int} (h : ∀ j, j < m → f j = g j) : tab m f = tab m g := by
  refine List.ext_getElem? fun j => ?_
  by_cases hj : j < m
  · rw [tab_at _ hj, tab_at _ hj, h j hj]
  · rw [List.getElem?_eq_none (by rw [tab_length]; omega), List.getElem?_eq_none (by rw [tab_length]; omega)]

theorem tab_set {m k : Nat} (f : Nat → Int) (v : Int) : (tab m f).set k v = tab m fun j => if j = k then v else f j := by
  refine List.ext_getElem? fun j => ?_
  rw [List.getElem?_set, tab_length]
  by_cases hj : j < m
  · by_cases hk : k = j
    · subst hk; rw [if_pos rfl, if_pos hj, tab_at _ hj, if_pos rfl]
    · rw [if_neg hk, tab_at _ hj, tab_at _ hj, if_neg (Ne.symm hk)]
  · rw [List.getElem?_eq_none (l := tab m _) (by rw [tab_length]; omega), List.getElem?_eq_none (l := tab m _) (by rw [tab_length]; omega)]
    by_cases hk : k = j
    · subst hk; rw [if_pos rfl, if_neg hj]
    · rw [if_neg hk]

theorem tab_zero (m : Nat) : List.replicate m 0 = tab m fun _ => 0 := by
  refine List.ext_getElem? fun j => ?_
  by_cases hj : j < m
  · rw [tab_at _ hj]; simp [hj]
  · rw [List.getElem?_eq_none (by simp; omega), List.getElem?_eq_none (by rw [tab_length]; omega)]

theorem getD_of {p : List Int} {k : Nat} {x : Int} (h : p[k]? = some x) : p.getD k 0 = x := by
  rw [List.getD_eq_getElem?_getD, h]; rfl

set_option maxHeartbeats 800000 in
theorem ScalePoly_any (A : Option Addr) (c : Nat) (p : List Int) (n : Int) (w : World) (h : SI w A p) :
    Calls Try.prog 51 #[.slice A p.length c, .int .i64 n] w fun e w' => RetO 3 w.heap.size w (scaleP p n) e w' := by
  obtain ⟨i0, hi, hz0, hz1, hz2⟩ := info_parts infoI
  have Hh := hd h
  clear h
  cases hv : validP p
  · have Hf : Hid (scaleP p n = none) := hd (by simp [scaleP, hv])
    go_enter Try.func51, Try.ntmps51
    go_wp2_with (go_at_call 28; refine (PolyValid_any A c p _ Hh.out).mono ?_; rintro e w' ⟨rfl, rfl⟩)
    go_ret2
    exact RetO.none_ Hf.out (Below.refl _ _)
  cases hn : inB n 100000
  · have Hf : Hid (scaleP p n = none) := hd (by simp [scaleP, hn])
    go_enter Try.func51, Try.ntmps51
    go_wp2_with (first
      | (go_at_call 28; refine (PolyValid_any A c p _ Hh.out).mono ?_; rintro e w' ⟨rfl, rfl⟩)
      | (go_at_call 88; refine (within_any n 100000 _ (by decide) (by decide)).mono ?_; rintro e w' ⟨rfl, rfl⟩))
    go_ret2
    exact RetO.none_ Hf.out (Below.refl _ _)
  obtain ⟨h1, h7, hx⟩ := validP_iff.1 hv
  obtain ⟨hn1, hn2⟩ := inB_iff.1 hn
  have Hf : Hid (scaleP p n = chk (p.map (· * n))) := hd (by simp [scaleP, hv, hn])
  have Hx := hd hx
  have Htl : Hid ((p.map (· * n)).length = p.length) := hd (by simp)
  clear hx
  go_enter Try.func51, Try.ntmps51
  go_wp2_with (first
    | (go_at_call 28; refine (PolyValid_any _ c p _ Hh.out).mono ?_; rintro e w' ⟨rfl, rfl⟩)
    | (go_at_call 88; refine (within_any n 100000 _ (by decide) (by decide)).mono ?_; rintro e w' ⟨rfl, rfl⟩)
    | (at_make; refine wpList_make_full _ rfl _ _ 23 rfl w.heap.size 3 i0 (.int .i64 0) 1 Try.underlying23 hi hz0 hz1 .i64 .i64 _ _ p.length rfl rfl rfl rfl (by rw [hz2]; omega) (by unfold maxLen; omega) (Nat.le_refl _) ?_; intro w1 hown hgrow))
  have how0 := OW.made hown (by omega)
  have hbel0 : Below w.heap.size w w1 := (Below.refl _ _).grown hgrow (Nat.le_refl _) (by simp)
  clear hown hgrow
  go_loopw [22] (fun i wr => ∃ (k : Nat) (xs : List Int), k ≤ p.length ∧ i = .int .i64 k ∧ xs.take k = (p.map (· * n)).take k ∧ OW 3 w.heap.size wr w.heap.size p.length xs ∧ Below w.heap.size w wr)
    (fun i _ => p.length - (intOf i).toNat)
  case atStart => exact ⟨0, List.replicate p.length 0, by omega, rfl, rfl, how0, hbel0⟩
  case round =>
    clear how0 hbel0
    obtain ⟨k, xs, hk, rfl, hxt, how, hbel⟩ := hrel
    have Hxt := hd hxt
    clear hxt
    by_cases hlt : k < p.length
    · obtain ⟨x, b, off, hx, rfl, hb, hc⟩ := (Hh.out.below hbel).at_ hlt
      have hxb := Hx.out x (List.mem_of_getElem? hx)
      have hb1 := mul_bd x n 100000 100000 (by decide) hxb.1 hxb.2 hn1 hn2
      have hb2 : -10000000000 ≤ x * n := by omega
      have hb3 : x * n ≤ 10000000000 := by omega
      have hat : (p.map (· * n))[k]? = some (x * n) := by rw [List.getElem?_map, hx]; rfl
      have Hat := hd hat
      obtain ⟨o, ho, hco⟩ := how.cell hlt
      have hfo := how.frozen k
      clear ho hx hb1 hat
      go_wp2
      go_roundw
      case rel => exact ⟨k + 1, xs.set k (x * n), by omega, by go_num, take_set_succ (by have := how.1; omega) Hxt.out Hat.out, how.set k _, hbel.setCell (Nat.le_refl _) _⟩
      case measure => simp [intOf]; omega
    · obtain rfl : k = p.length := by omega
      have hxs : xs = p.map (· * n) := by
        have h1 := Hxt.out
        rw [List.take_of_length_le (by have := how.1; omega), List.take_of_length_le (by simp)] at h1
        exact h1
      subst hxs
      have Ho := hd how.own
      go_wp2_with (go_at_call 75; refine (checked_n _ _ _ _ _ (p.map (· * n)) _ Htl.out Ho.out).mono ?_; rintro e w3 ⟨A3, c3, rfl, own3, bel4⟩)
      go_ret2
      rw [Hf.out]
      exact ⟨A3, c3, rfl, own3, hbel.trans bel4⟩

set_option maxHeartbeats 1600000 in
theorem AddPolys_any (A A' : Option Addr) (c c' : Nat) (p q : List Int) (w : World) (h : SI w A p) (h' : SI w A' q) :
    Calls Try.prog 49 #[.slice A p.length c, .slice A' q.length c'] w fun e w' => RetO 3 w.heap.size w (addP p q) e w' := by
  obtain ⟨i0, hi, hz0, hz1, hz2⟩ := info_parts infoI
  have Hh := hd h
  have Hh' := hd h'
  clear h h'
  cases hv : validP p
  · have Hf : Hid (addP p q = none) := hd (by simp [addP, hv])
    go_enter Try.func49, Try.ntmps49
    go_wp2_with (go_at_call 28; refine (PolyValid_any A c p _ Hh.out).mono ?_; rintro e w' ⟨rfl, rfl⟩)
    go_ret2
    exact RetO.none_ Hf.out (Below.refl _ _)
  cases hv' : validP q
  · have Hf : Hid (addP p q = none) := hd (by simp [addP, hv'])
    go_enter Try.func49, Try.ntmps49
    go_wp2_with fail
    refine (PolyValid_any A c p _ Hh.out).mono ?_
    rintro e w' ⟨rfl, rfl⟩
    go_wp2_with fail
    refine (PolyValid_any A' c' q _ Hh'.out).mono ?_
    rintro e w' ⟨rfl, rfl⟩
    go_wp2
    go_ret2
    exact RetO.none_ Hf.out (Below.refl _ _)
  obtain ⟨h1, h7, hx⟩ := validP_iff.1 hv
  obtain ⟨h1', h7', hx'⟩ := validP_iff.1 hv'
  obtain ⟨m, hm⟩ : ∃ m, m = max p.length q.length := ⟨_, rfl⟩
  have Hf : Hid (addP p q = chk (tab m fun k => p.getD k 0 + q.getD k 0)) := hd (by simp [addP, hv, hv', hm])
  have hm7 : m ≤ 7 := by omega
  have hmp : p.length ≤ m := by omega
  have hmq : q.length ≤ m := by omega
  have Hm := hd hm
  have Hx := hd hx
  have Hx' := hd hx'
  have Htl := hd (tab_length m fun k => p.getD k 0 + q.getD k 0)
  clear hm hx hx'
  by_cases hmx : p.length < q.length
  · go_enter Try.func49, Try.ntmps49
    go_wp2_with fail
    refine (PolyValid_any A c p _ Hh.out).mono ?_
    rintro e w' ⟨rfl, rfl⟩
    go_wp2_with fail
    refine (PolyValid_any A' c' q _ Hh'.out).mono ?_
    rintro e w' ⟨rfl, rfl⟩
    go_wp2_with (at_make; refine wpList_make_full _ rfl _ _ 23 rfl w.heap.size 3 i0 (.int .i64 0) 1 Try.underlying23 hi hz0 hz1 .i64 .i64 _ _ m rfl rfl (by have := Hm.out; omega) (by have := Hm.out; omega) (by rw [hz2]; omega) (by unfold maxLen; omega) (Nat.le_refl _) ?_; intro w1 hown hgrow)
    have how0 := OW.made hown (by omega)
    have hbel0 : Below w.heap.size w w1 := (Below.refl _ _).grown hgrow (Nat.le_refl _) (by simp)
    clear hown hgrow
    go_loopw [27] (fun i wr => ∃ (k : Nat), k ≤ p.length ∧ i = .int .i64 k ∧ OW 3 w.heap.size wr w.heap.size m (tab m fun j => if j < k then p.getD j 0 else 0) ∧ Below w.heap.size w wr)
      (fun i _ => p.length - (intOf i).toNat)
    case atStart => exact ⟨0, by omega, rfl, by rw [tab_zero] at how0; simpa using how0, hbel0⟩
    case round =>
      clear how0 hbel0
      obtain ⟨k, hk, rfl, how, hbel⟩ := hrel
      by_cases hlt : k < p.length
      · obtain ⟨x, b, off, hx, rfl, hb, hc⟩ := (Hh.out.below hbel).at_ hlt
        have hxb := Hx.out x (List.mem_of_getElem? hx)
        obtain ⟨hx1, hx2⟩ := hxb
        have Hgx := hd (getD_of hx)
        obtain ⟨o, ho, hco⟩ := how.cell (k := k) (by omega)
        obtain rfl : o = 0 := by rw [tab_at _ (by omega)] at ho; simpa using ho.symm
        have hfo := how.frozen k
        have hkm : k < m := by omega
        clear ho hx
        go_wp2
        go_roundw
        case rel => exact ⟨k + 1, by omega, by go_num, (by
          have h2 := how.set k x
          rw [tab_set, tab_ext (g := fun j => if j < k + 1 then p.getD j 0 else 0) (fun j _ => by
            by_cases hj : j = k
            · subst hj; rw [if_pos rfl, if_pos (by omega), Hgx.out]
            · rw [if_neg hj]
              by_cases hj2 : j < k
              · rw [if_pos hj2, if_pos (by omega)]
              · rw [if_neg hj2, if_neg (by omega)])] at h2
          simpa using h2), (by simpa using hbel.setCell (Nat.le_refl _) _)⟩
        case measure => simp [intOf]; omega
      · obtain rfl : k = p.length := by omega
        rw [tab_ext (g := fun j => p.getD j 0 + if j < 0 then q.getD j 0 else 0) (fun j _ => by
          by_cases hj : j < p.length
          · simp [hj]
          · simp [hj])] at how
        have Ho := hd how
        have Hb := hd hbel
        clear how hbel
        go_wp2
        go_loopw [42] (fun i wr => ∃ (k : Nat), k ≤ q.length ∧ i = .int .i64 k ∧ OW 3 w.heap.size wr w.heap.size m (tab m fun j => p.getD j 0 + if j < k then q.getD j 0 else 0) ∧ Below w.heap.size w wr)
          (fun i _ => q.length - (intOf i).toNat)
        case atStart => exact ⟨0, by omega, rfl, Ho.out, Hb.out⟩
        case round =>
          clear Ho Hb
          obtain ⟨k, hk, rfl, how, hbel⟩ := hrel
          by_cases hlt : k < q.length
          · obtain ⟨x, b, off, hx, rfl, hb, hc⟩ := (Hh'.out.below hbel).at_ hlt
            have hxb := Hx'.out x (List.mem_of_getElem? hx)
            obtain ⟨hx1, hx2⟩ := hxb
            have Hgx := hd (getD_of hx)
            obtain ⟨o, ho, hco⟩ := how.cell (k := k) (by omega)
            have hpo : o = p.getD k 0 := by rw [tab_at _ (by omega)] at ho; simpa using ho.symm
            have hpb : -100000 ≤ o ∧ o ≤ 100000 := by
              rw [hpo]
              by_cases hkp : k < p.length
              · rw [getD_of (List.getElem?_eq_getElem hkp)]; exact Hx.out _ (List.getElem_mem hkp)
              · rw [List.getD_eq_getElem?_getD, List.getElem?_eq_none (by omega)]; simp
            obtain ⟨hp1, hp2⟩ := hpb
            have Hpo := hd hpo
            have hfo := how.frozen k
            have hkm : k < m := by omega
            clear ho hx hpo
            go_wp2
            go_roundw
            case rel => exact ⟨k + 1, by omega, by go_num, (by
              have h2 := how.set k (o + x)
              rw [tab_set, tab_ext (g := fun j => p.getD j 0 + if j < k + 1 then q.getD j 0 else 0) (fun j _ => by
                by_cases hj : j = k
                · subst hj; rw [if_pos rfl, if_pos (by omega), Hgx.out, Hpo.out]
                · rw [if_neg hj]
                  by_cases hj2 : j < k
                  · rw [if_pos hj2, if_pos (by omega)]
                  · rw [if_neg hj2, if_neg (by omega)])] at h2
              simpa using h2), (by simpa using hbel.setCell (Nat.le_refl _) _)⟩
            case measure => simp [intOf]; omega
          · obtain rfl : k = q.length := by omega
            rw [tab_ext (g := fun j => p.getD j 0 + q.getD j 0) (fun j _ => by
              by_cases hj : j < q.length
              · simp [hj]
              · simp [hj])] at how
            have Ho := hd how.own
            go_wp2_with (go_at_call 75; refine (checked_n _ _ _ _ _ (tab m fun j => p.getD j 0 + q.getD j 0) _ Htl.out Ho.out).mono ?_; rintro e w3 ⟨A3, c3, rfl, own3, bel4⟩)
            go_ret2
            rw [Hf.out]
            exact ⟨A3, c3, rfl, own3, hbel.trans bel4⟩
  · go_enter Try.func49, Try.ntmps49
    go_wp2_with fail
    refine (PolyValid_any A c p _ Hh.out).mono ?_
    rintro e w' ⟨rfl, rfl⟩
    go_wp2_with fail
    refine (PolyValid_any A' c' q _ Hh'.out).mono ?_
    rintro e w' ⟨rfl, rfl⟩
    go_wp2_with (at_make; refine wpList_make_full _ rfl _ _ 23 rfl w.heap.size 3 i0 (.int .i64 0) 1 Try.underlying23 hi hz0 hz1 .i64 .i64 _ _ m rfl rfl (by have := Hm.out; omega) (by have := Hm.out; omega) (by rw [hz2]; omega) (by unfold maxLen; omega) (Nat.le_refl _) ?_; intro w1 hown hgrow)
    have how0 := OW.made hown (by omega)
    have hbel0 : Below w.heap.size w w1 := (Below.refl _ _).grown hgrow (Nat.le_refl _) (by simp)
    clear hown hgrow
    go_loopw [27] (fun i wr => ∃ (k : Nat), k ≤ p.length ∧ i = .int .i64 k ∧ OW 3 w.heap.size wr w.heap.size m (tab m fun j => if j < k then p.getD j 0 else 0) ∧ Below w.heap.size w wr)
      (fun i _ => p.length - (intOf i).toNat)
    case atStart => exact ⟨0, by omega, rfl, by rw [tab_zero] at how0; simpa using how0, hbel0⟩
    case round =>
      clear how0 hbel0
      obtain ⟨k, hk, rfl, how, hbel⟩ := hrel
      by_cases hlt : k < p.length
      · obtain ⟨x, b, off, hx, rfl, hb, hc⟩ := (Hh.out.below hbel).at_ hlt
        have hxb := Hx.out x (List.mem_of_getElem? hx)
        obtain ⟨hx1, hx2⟩ := hxb
        have Hgx := hd (getD_of hx)
        obtain ⟨o, ho, hco⟩ := how.cell (k := k) (by omega)
        obtain rfl : o = 0 := by rw [tab_at _ (by omega)] at ho; simpa using ho.symm
        have hfo := how.frozen k
        have hkm : k < m := by omega
        clear ho hx
        go_wp2
        go_roundw
        case rel => exact ⟨k + 1, by omega, by go_num, (by
          have h2 := how.set k x
          rw [tab_set, tab_ext (g := fun j => if j < k + 1 then p.getD j 0 else 0) (fun j _ => by
            by_cases hj : j = k
            · subst hj; rw [if_pos rfl, if_pos (by omega), Hgx.out]
            · rw [if_neg hj]
              by_cases hj2 : j < k
              · rw [if_pos hj2, if_pos (by omega)]
              · rw [if_neg hj2, if_neg (by omega)])] at h2
          simpa using h2), (by simpa using hbel.setCell (Nat.le_refl _) _)⟩
        case measure => simp [intOf]; omega
      · obtain rfl : k = p.length := by omega
        rw [tab_ext (g := fun j => p.getD j 0 + if j < 0 then q.getD j 0 else 0) (fun j _ => by
          by_cases hj : j < p.length
          · simp [hj]
          · simp [hj])] at how
        have Ho := hd how
        have Hb := hd hbel
        clear how hbel
        go_wp2
        go_loopw [42] (fun i wr => ∃ (k : Nat), k ≤ q.length ∧ i = .int .i64 k ∧ OW 3 w.heap.size wr w.heap.size m (tab m fun j => p.getD j 0 + if j < k then q.getD j 0 else 0) ∧ Below w.heap.size w wr)
          (fun i _ => q.length - (intOf i).toNat)
        case atStart => exact ⟨0, by omega, rfl, Ho.out, Hb.out⟩
        case round =>
          clear Ho Hb
          obtain ⟨k, hk, rfl, how, hbel⟩ := hrel
          by_cases hlt : k < q.length
          · obtain ⟨x, b, off, hx, rfl, hb, hc⟩ := (Hh'.out.below hbel).at_ hlt
            have hxb := Hx'.out x (List.mem_of_getElem? hx)
            obtain ⟨hx1, hx2⟩ := hxb
            have Hgx := hd (getD_of hx)
            obtain ⟨o, ho, hco⟩ := how.cell (k := k) (by omega)
            have hpo : o = p.getD k 0 := by rw [tab_at _ (by omega)] at ho; simpa using ho.symm
            have hpb : -100000 ≤ o ∧ o ≤ 100000 := by
              rw [hpo]
              by_cases hkp : k < p.length
              · rw [getD_of (List.getElem?_eq_getElem hkp)]; exact Hx.out _ (List.getElem_mem hkp)
              · rw [List.getD_eq_getElem?_getD, List.getElem?_eq_none (by omega)]; simp
            obtain ⟨hp1, hp2⟩ := hpb
            have Hpo := hd hpo
            have hfo := how.frozen k
            have hkm : k < m := by omega
            clear ho hx hpo
            go_wp2
            go_roundw
            case rel => exact ⟨k + 1, by omega, by go_num, (by
              have h2 := how.set k (o + x)
              rw [tab_set, tab_ext (g := fun j => p.getD j 0 + if j < k + 1 then q.getD j 0 else 0) (fun j _ => by
                by_cases hj : j = k
                · subst hj; rw [if_pos rfl, if_pos (by omega), Hgx.out, Hpo.out]
                · rw [if_neg hj]
                  by_cases hj2 : j < k
                  · rw [if_pos hj2, if_pos (by omega)]
                  · rw [if_neg hj2, if_neg (by omega)])] at h2
              simpa using h2), (by simpa using hbel.setCell (Nat.le_refl _) _)⟩
            case measure => simp [intOf]; omega
          · obtain rfl : k = q.length := by omega
            rw [tab_ext (g := fun j => p.getD j 0 + q.getD j 0) (fun j _ => by
              by_cases hj : j < q.length
              · simp [hj]
              · simp [hj])] at how
            have Ho := hd how.own
            go_wp2_with (go_at_call 75; refine (checked_n _ _ _ _ _ (tab m fun j => p.getD j 0 + q.getD j 0) _ Htl.out Ho.out).mono ?_; rintro e w3 ⟨A3, c3, rfl, own3, bel4⟩)
            go_ret2
            rw [Hf.out]
            exact ⟨A3, c3, rfl, own3, hbel.trans bel4⟩

end Go.Proofs.Ythoodhdcmckkpaa
