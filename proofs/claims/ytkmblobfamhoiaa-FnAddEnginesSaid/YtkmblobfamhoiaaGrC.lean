/- Merged out of the texts PolyC PolyD. -/
import Derived.Test.YtkmblobfamhoiaaGrB
import Derived.Test.YtkmblobfamhoiaaGrA
import Derived.Lib.SliceRun
/- Contracts of the program's functions that shift, sum, step and turn polynomials. -/
namespace Go.Proofs.Ytkmblobfamhoiaa
open Go.RowKit
set_option maxRecDepth 4000

theorem checked_yes (A : Option Addr) (c : Nat) (p : List Int) (w : World) (h : SI w A p) (hv : validP p = true) :
    Calls Try.prog 109 #[.slice A p.length c] w fun e w' => e = .returned (.tuple #[.slice A p.length c, .bool true]) ∧ w = w' := by
  have Hh := hd h
  clear h
  go_enter Try.func109, Try.ntmps109
  go_wp2_with (go_at_call 116; refine (PolyValid_any A c p _ Hh.out).mono ?_; rintro e w' ⟨rfl, rfl⟩)
  go_ret2
  exact ⟨rfl, rfl⟩

theorem checked_no (A : Option Addr) (c : Nat) (p : List Int) (w : World) (h : SI w A p) (hv : validP p = false) :
    Calls Try.prog 109 #[.slice A p.length c] w fun e w' => e = .returned (.tuple #[.slice none 0 0, .bool false]) ∧ w = w' := by
  have Hh := hd h
  clear h
  go_enter Try.func109, Try.ntmps109
  go_wp2_with (go_at_call 116; refine (PolyValid_any A c p _ Hh.out).mono ?_; rintro e w' ⟨rfl, rfl⟩)
  go_ret2
  exact ⟨rfl, rfl⟩

/-- The result of a function that returns a polynomial or nothing. -/
def RetO (E : TypeId) (B : Nat) (w : World) (r : Option (List Int)) (e : Ending) (w' : World) : Prop := RetIB E B w (r.getD []) r.isSome e w'

theorem RetO.none_ {E : TypeId} {B : Nat} {w w' : World} {r : Option (List Int)} (h : r = none) (hb : Below B w w') : RetO E B w r (.returned (.tuple #[.slice none 0 0, .bool false])) w' := by
  subst h; exact RetIB.empty rfl rfl hb
theorem RetO.some_ {E : TypeId} {B n c : Nat} {A : Option Addr} {w w' : World} {r : Option (List Int)} {zs : List Int} (h : r = some zs) (ho : OwnI E B w' A c zs) (hn : n = zs.length) (hb : Below B w w') :
    RetO E B w r (.returned (.tuple #[.slice A n c, .bool true])) w' := by
  subst h; exact RetIB.own ho hn rfl hb

/-- A list of its own, checked. -/
theorem checked_own (E : TypeId) (B : Nat) (A : Option Addr) (c : Nat) (p : List Int) (w : World) (h : OwnI E B w A c p) :
    Calls Try.prog 109 #[.slice A p.length c] w fun e w' => RetO E B w (chk p) e w' := by
  cases hv : validP p
  · exact (checked_no A c p w h.si hv).mono fun e w' ⟨he, hw⟩ => by
      subst he hw; exact RetO.none_ (by simp [chk, hv]) (Below.refl _ _)
  · exact (checked_yes A c p w h.si hv).mono fun e w' ⟨he, hw⟩ => by
      subst he hw; exact RetO.some_ (by simp [chk, hv]) h rfl (Below.refl _ _)

theorem RetO.trans {E : TypeId} {B B1 : Nat} {w w1 w' : World} {r : Option (List Int)} {e : Ending} (h : RetO E B1 w1 r e w') (hB : B ≤ B1) (hb : Below B w w1) : RetO E B w r e w' := by
  obtain ⟨A, c, he, ho, hb'⟩ := h
  exact ⟨A, c, he, ho.low hB, hb.trans (hb'.mono hB)⟩

/-- A value as EvalPoly returns it. -/
theorem EvalPoly_yes (A : Option Addr) (c : Nat) (p : List Int) (n : Int) (w : World) (h : SI w A p) (hv : validP p = true) (hn : inB n 200 = true) :
    Calls Try.prog 119 #[.slice A p.length c, .int .i64 n] w fun e w' => e = .returned (.tuple #[.int .i64 (val p n), .bool true]) ∧ w = w' := by
  have Hh := hd h
  obtain ⟨_, h7, hx⟩ := validP_iff.1 hv
  have hn2 := inB_iff.1 hn
  have hok := ValOk.of h7 hx (n := n) (by omega) (by omega)
  have Hok := hd hok
  clear h hok hx
  go_enter Try.func119, Try.ntmps119
  go_wp2_with (first
    | (go_at_call 116; refine (PolyValid_any A c p _ Hh.out).mono ?_; rintro e w' ⟨rfl, rfl⟩)
    | (go_at_call 94; refine (within_any n 200 _ (by decide) (by decide)).mono ?_; rintro e w' ⟨rfl, rfl⟩)
    | (go_at_call 117; refine (valueAt_any A c p n _ Hh.out h7 Hok.out (by omega) (by omega)).mono ?_; rintro e w' ⟨rfl, rfl⟩))
  go_ret2
  exact ⟨rfl, rfl⟩

theorem EvalPoly_no (A : Option Addr) (c : Nat) (p : List Int) (n : Int) (w : World) (h : SI w A p) (hv : (validP p && inB n 200) = false) :
    Calls Try.prog 119 #[.slice A p.length c, .int .i64 n] w fun e w' => e = .returned (.tuple #[.int .i64 0, .bool false]) ∧ w = w' := by
  have Hh := hd h
  clear h
  cases h1 : validP p
  · clear hv
    go_enter Try.func119, Try.ntmps119
    go_wp2_with (go_at_call 116; refine (PolyValid_any A c p _ Hh.out).mono ?_; rintro e w' ⟨rfl, rfl⟩)
    go_ret2
    exact ⟨rfl, rfl⟩
  · have hn : inB n 200 = false := by simpa [h1] using hv
    clear hv
    go_enter Try.func119, Try.ntmps119
    go_wp2_with (first
      | (go_at_call 116; refine (PolyValid_any A c p _ Hh.out).mono ?_; rintro e w' ⟨rfl, rfl⟩)
      | (go_at_call 94; refine (within_any n 200 _ (by decide) (by decide)).mono ?_; rintro e w' ⟨rfl, rfl⟩))
    go_ret2
    exact ⟨rfl, rfl⟩

/-- The end of a function that has filled a row with values: first differences, checked. -/
theorem step_bd {p : List Int} (hv : validP p = true) (f : Int → Int) (hf : ∀ i : Nat, i < p.length → -60 ≤ f i ∧ f i ≤ 60) :
    ∀ k, k < (tab p.length fun i => val p (f i)).length → ∀ x ∈ nbrs k (tab p.length fun i => val p (f i)), -2000000000000000000 ≤ x ∧ x ≤ 2000000000000000000 := by
  obtain ⟨_, h7, _⟩ := validP_iff.1 hv
  refine nbrs_small (B := 10000000000000) (by decide) (by rw [tab_length]; exact h7) (by decide) ?_
  intro x hx
  obtain ⟨i, hi, rfl⟩ := tab_mem hx
  exact val60 hv (hf i hi).1 (hf i hi).2

theorem mul_bd' {p q : List Int} (hp : validP p = true) (hq : validP q = true) (hl : p.length + q.length - 1 ≤ 7) :
    ∀ k, k < (tab (p.length + q.length - 1) fun n => val p n * val q n).length → ∀ x ∈ nbrs k (tab (p.length + q.length - 1) fun n => val p n * val q n), -2000000000000000000 ≤ x ∧ x ≤ 2000000000000000000 := by
  refine nbrs_small (B := 10000000000000000) (by decide) (by rw [tab_length]; exact hl) (by decide) ?_
  intro x hx
  obtain ⟨i, hi, rfl⟩ := tab_mem hx
  have h1 := val6 hp i (by omega)
  have h2 := val6 hq i (by omega)
  have := mul_bd _ _ 100000000 100000000 (by decide) h1.1 h1.2 h2.1 h2.2
  omega

end Go.Proofs.Ytkmblobfamhoiaa

/- Contracts: a clone of a list of numbers; sums, differences, shifts of polynomials. -/
namespace Go.Proofs.Ytkmblobfamhoiaa
open Go.RowKit
set_option maxRecDepth 4000

theorem SI.cells {w : World} {A : Option Addr} {zs : List Int} (h : SI w A zs) {b off : Nat} (hA : A = some ⟨b, off, none⟩) :
    ∀ (j : Nat) (u : Value), (zs.map (Value.int .i64))[j]? = some u → w.cell? ((⟨b, off, none⟩ : Addr).add j) = some u := by
  intro j u hu
  obtain ⟨b', off', e, _, hc⟩ := h.2 j u hu
  rw [hA] at e
  simp only [Option.some.injEq, Addr.mk.injEq, and_true] at e
  obtain ⟨rfl, rfl⟩ := e
  have hadd : (⟨b, off, none⟩ : Addr).add j = ⟨b, off + j, none⟩ := by unfold Addr.add; split <;> simp_all
  rw [hadd]; exact hc

theorem ints_one (zs : List Int) : ∀ u ∈ zs.map (Value.int .i64), u.oneCell' = true := by
  intro u hu
  obtain ⟨x, _, rfl⟩ := List.mem_map.1 hu
  rfl

set_option maxHeartbeats 400000 in
theorem Clone_any (A : Option Addr) (c : Nat) (zs : List Int) (w : World) (h : SI w A zs) (hn : 0 < zs.length) :
    Calls Try.prog 68 #[.slice A zs.length c] w fun e w' => RetI 3 w.heap.size w zs e w' := by
  obtain ⟨i0, hi, hz0, hz1, hz2⟩ := info_parts infoI
  obtain ⟨b, off, rfl, hb⟩ := h.nonempty hn
  have hl := h.len
  have Hh := hd h
  clear h
  have qT : ∀ (w : World) (a : Option Addr) (n c n' c' : Nat), (binOp .eql 23 (.slice a n c) (.slice none n' c')).run Try.prog w = .ok (.bool a.isNone) w := fun w a n c n' c' => Lib.run_eql_slice_nil w _ _ a n c n' c' Try.underlying23
  go_enter Try.func68, Try.ntmps68
  have Hc := hd ((Hh.out.alloc (.cells #[] 3)).cells rfl)
  go_wp2_with (at_builtin; refine wpList_append_own _ rfl _ _ 23 rfl w.heap.size 3 i0 (.int .i64 0) 1 8 Try.underlying23 hi hz0 hz1 hz2 rfl (by decide) _ 0 [] rfl (World.ownsRow_made w #[] 0 (Nat.le_refl _) (by simp) (by simp)) ⟨b, off, none⟩ zs.length c (zs.map (Value.int .i64)) rfl (by simp) Hc.out (ints_one zs) (by unfold maxLen; omega) (by omega) (by simp) ?_; intro v1 w1 hown hgrow _)
  have hbel : Below w.heap.size w w1 := ((Below.refl _ _).alloc (Nat.le_refl _) _).grown (row := some w.heap.size) hgrow (by simp) (by simp)
  have hr : RetI 3 w.heap.size w zs (.returned v1) w1 := by
    simp only [Nat.zero_add, List.nil_append] at hown
    rcases hown.2 with ⟨_, h0⟩ | ⟨g, cap, cur, hv, h2⟩
    · omega
    · subst hv
      exact ⟨_, _, rfl, ⟨hl, hown⟩, hbel⟩
  have Hr := hd hr
  clear hr hown hgrow hbel
  go_wp2
  go_ret
  exact Hr.out

theorem SI.drop {w : World} {A : Option Addr} {zs : List Int} (h : SI w A zs) {b off : Nat} (hA : A = some ⟨b, off, none⟩) (k : Nat) : SI w (some ⟨b, off + k, none⟩) (zs.drop k) := by
  subst hA
  refine ⟨by have := h.1; simp at this ⊢; omega, fun j v hj => ?_⟩
  rw [List.map_drop] at hj
  rw [List.getElem?_drop] at hj
  obtain ⟨b', off', e, hb, hc⟩ := h.2 (k + j) v hj
  simp only [Option.some.injEq, Addr.mk.injEq, and_true] at e
  obtain ⟨rfl, rfl⟩ := e
  exact ⟨b, off + k, rfl, hb, by rw [Nat.add_assoc]; exact hc⟩

theorem Clone_n (n : Nat) (A : Option Addr) (c : Nat) (zs : List Int) (w : World) (hz : zs.length = n) (h : SI w A zs) (hn : 0 < zs.length) :
    Calls Try.prog 68 #[.slice A n c] w fun e w' => RetI 3 w.heap.size w zs e w' := by
  subst hz; exact Clone_any A c zs w h hn

theorem valueAt_n (m : Nat) (A : Option Addr) (c : Nat) (p : List Int) (n : Int) (w : World) (hm : p.length = m) (h : SI w A p) (hp : p.length ≤ 7) (hv : ValOk p n) (hn : -300 ≤ n) (hn' : n ≤ 300) :
    Calls Try.prog 117 #[.slice A m c, .int .i64 n] w fun e w' => e = .returned (.int .i64 (val p n)) ∧ w = w' := by
  subst hm; exact valueAt_any A c p n w h hp hv hn hn'

theorem PolyValid_n (m : Nat) (A : Option Addr) (c : Nat) (p : List Int) (w : World) (hm : p.length = m) (h : SI w A p) :
    Calls Try.prog 116 #[.slice A m c] w fun e w' => e = .returned (.bool (validP p)) ∧ w = w' := by
  subst hm; exact PolyValid_any A c p w h

theorem checked_n (m : Nat) (E : TypeId) (B : Nat) (A : Option Addr) (c : Nat) (p : List Int) (w : World) (hm : p.length = m) (h : OwnI E B w A c p) :
    Calls Try.prog 109 #[.slice A m c] w fun e w' => RetO E B w (chk p) e w' := by
  subst hm; exact checked_own E B A c p w h

set_option maxHeartbeats 800000 in
theorem ShiftPoly_any (A : Option Addr) (c : Nat) (p : List Int) (n : Int) (w : World) (h : SI w A p) (hcap : p.length ≤ c) :
    Calls Try.prog 51 #[.slice A p.length c, .int .i64 n] w fun e w' => RetO 3 w.heap.size w (shiftP p n) e w' := by
  obtain ⟨i0, hi, hz0, hz1, hz2⟩ := info_parts infoI
  have Hh := hd h
  cases hv : validP p
  · clear h
    have Hf : Hid (shiftP p n = none) := hd (by simp [shiftP, hv])
    go_enter Try.func51, Try.ntmps51
    go_wp2_with (go_at_call 116; refine (PolyValid_any A c p _ Hh.out).mono ?_; rintro e w' ⟨rfl, rfl⟩)
    go_ret2
    exact RetO.none_ Hf.out (Below.refl _ _)
  cases hn : inB n 200
  · clear h
    have Hf : Hid (shiftP p n = none) := hd (by simp [shiftP, hn])
    go_enter Try.func51, Try.ntmps51
    go_wp2_with (first
      | (go_at_call 116; refine (PolyValid_any A c p _ Hh.out).mono ?_; rintro e w' ⟨rfl, rfl⟩)
      | (go_at_call 94; refine (within_any n 200 _ (by decide) (by decide)).mono ?_; rintro e w' ⟨rfl, rfl⟩))
    go_ret2
    exact RetO.none_ Hf.out (Below.refl _ _)
  obtain ⟨h1, h7, hx⟩ := validP_iff.1 hv
  have hn2 := inB_iff.1 hn
  obtain ⟨b, off, rfl, hb⟩ := h.nonempty h1
  have Hf : Hid (shiftP p n = chk (tab p.length fun k => val (p.drop k) n)) := hd (by simp [shiftP, hv, hn])
  have Hx := hd hx
  have Htl := hd (tab_length p.length fun k => val (p.drop k) n)
  clear h hx
  go_enter Try.func51, Try.ntmps51
  go_wp2_with (first
    | (go_at_call 116; refine (PolyValid_any _ c p _ Hh.out).mono ?_; rintro e w' ⟨rfl, rfl⟩)
    | (go_at_call 94; refine (within_any n 200 _ (by decide) (by decide)).mono ?_; rintro e w' ⟨rfl, rfl⟩)
    | (at_make; refine wpList_make_full _ rfl _ _ 23 rfl w.heap.size 3 i0 (.int .i64 0) 1 Try.underlying23 hi hz0 hz1 .i64 .i64 _ _ p.length rfl rfl rfl rfl (by rw [hz2]; omega) (by unfold maxLen; omega) (Nat.le_refl _) ?_; intro w1 hown hgrow))
  have how0 := OW.made hown (by omega)
  have hbel0 : Below w.heap.size w w1 := (Below.refl _ _).grown hgrow (Nat.le_refl _) (by simp)
  clear hown hgrow
  go_loopw [21] (fun i wr => ∃ (k : Nat) (xs : List Int), k ≤ p.length ∧ i = .int .i64 k ∧ xs.take k = (tab p.length fun k => val (p.drop k) n).take k ∧ OW 3 w.heap.size wr w.heap.size p.length xs ∧ Below w.heap.size w wr)
    (fun i _ => p.length - (intOf i).toNat)
  case atStart => exact ⟨0, List.replicate p.length 0, by omega, rfl, rfl, how0, hbel0⟩
  case round =>
    clear how0 hbel0
    obtain ⟨k, xs, hk, rfl, hxt, how, hbel⟩ := hrel
    have Hxt := hd hxt
    clear hxt
    by_cases hlt : k < p.length
    · have Hs := hd ((Hh.out.below hbel).drop rfl k)
      have Hok := hd (ValOk.of (p := p.drop k) (n := n) (by simp; omega) (fun x hx => Hx.out x (List.mem_of_mem_drop hx)) (by omega) (by omega))
      have Hdl : Hid ((p.drop k).length = p.length - k) := hd (by simp)
      have Hd7 : Hid ((p.drop k).length ≤ 7) := hd (by simp; omega)
      have hck : ¬ c = k := by omega
      obtain ⟨o, ho, hco⟩ := how.cell hlt
      have hfo := how.frozen k
      clear ho
      go_wp2_with (go_at_call 117; refine (valueAt_n _ _ _ (p.drop k) n _ Hdl.out Hs.out Hd7.out Hok.out (by omega) (by omega)).mono ?_; rintro e w' ⟨rfl, rfl⟩)
      go_roundw
      case rel => exact ⟨k + 1, xs.set k (val (p.drop k) n), by omega, by go_num, take_set_succ (by have := how.1; omega) Hxt.out (tab_at _ hlt), how.set k _, hbel.setCell (Nat.le_refl _) _⟩
      case measure => simp [intOf]; omega
    · obtain rfl : k = p.length := by omega
      have hxs : xs = tab p.length fun k => val (p.drop k) n := by
        have h1 := Hxt.out
        rw [List.take_of_length_le (by have := how.1; omega), List.take_of_length_le (by rw [tab_length]; omega)] at h1
        exact h1
      subst hxs
      have Ho := hd how.own
      go_wp2_with (go_at_call 109; refine (checked_n _ _ _ _ _ (tab p.length fun k => val (p.drop k) n) _ Htl.out Ho.out).mono ?_; rintro e w3 ⟨A3, c3, rfl, own3, bel4⟩)
      go_ret2
      rw [Hf.out]
      exact ⟨A3, c3, rfl, own3, hbel.trans bel4⟩

end Go.Proofs.Ytkmblobfamhoiaa
