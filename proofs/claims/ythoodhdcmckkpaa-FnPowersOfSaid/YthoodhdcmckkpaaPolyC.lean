/- Contracts of the program's functions that shift, sum, step and turn polynomials. -/
import Derived.Test.YthoodhdcmckkpaaPolyB
import Derived.Test.YthoodhdcmckkpaaPureC
namespace Go.Proofs.Ythoodhdcmckkpaa
open Go.RowKit

theorem checked_yes (A : Option Addr) (c : Nat) (p : List Int) (w : World) (h : SI w A p) (hv : validP p = true) :
    Calls Try.prog 75 #[.slice A p.length c] w fun e w' => e = .returned (.tuple #[.slice A p.length c, .bool true]) ∧ w = w' := by
  have Hh := hd h
  clear h
  go_enter Try.func75, Try.ntmps75
  go_wp2_with (go_at_call 28; refine (PolyValid_any A c p _ Hh.out).mono ?_; rintro e w' ⟨rfl, rfl⟩)
  go_ret2
  exact ⟨rfl, rfl⟩

theorem checked_no (A : Option Addr) (c : Nat) (p : List Int) (w : World) (h : SI w A p) (hv : validP p = false) :
    Calls Try.prog 75 #[.slice A p.length c] w fun e w' => e = .returned (.tuple #[.slice none 0 0, .bool false]) ∧ w = w' := by
  have Hh := hd h
  clear h
  go_enter Try.func75, Try.ntmps75
  go_wp2_with (go_at_call 28; refine (PolyValid_any A c p _ Hh.out).mono ?_; rintro e w' ⟨rfl, rfl⟩)
  go_ret2
  exact ⟨rfl, rfl⟩

/-- The result of a function that returns a polynomial or nothing. -/
def RetO (E : TypeId) (B : Nat) (w : World) (r : Option (List Int)) (e : Ending) (w' : World) : Prop := RetIB E B w (r.getD []) r.isSome e w'

theorem RetO.none_ {E : TypeId} {B : Nat} {w w' : World} {r : Option (List Int)} (h : r = none) (hb : Below B w w') : RetO E B w r (.returned (.tuple #[.slice none 0 0, .bool false])) w' := by
  subst h; exact RetIB.empty rfl rfl hb
theorem RetO.some_ {E : TypeId} {B n c : Nat} {A : Option Addr} {w w' : World} {r : Option (List Int)} {zs : List Int} (h : r = some zs) (ho : OwnI E B w' A c zs) (hn : n = zs.length) (hb : Below B w w') :
    RetO E B w r (.returned (.tuple #[.slice A n c, .bool true])) w' := by
  subst h; exact RetIB.own ho hn rfl hb

/-- A list of its own, checked. -/
theorem checked_own (E : TypeId) (B : Nat) (A : Option Addr) (c : Nat) (p : List Int) (w : World) (h : OwnI E B w A c p) :
    Calls Try.prog 75 #[.slice A p.length c] w fun e w' => RetO E B w (chk p) e w' := by
  cases hv : validP p
  · exact (checked_no A c p w h.si hv).mono fun e w' ⟨he, hw⟩ => by
      subst he hw; exact RetO.none_ (by simp [chk, hv]) (Below.refl _ _)
  · exact (checked_yes A c p w h.si hv).mono fun e w' ⟨he, hw⟩ => by
      subst he hw; exact RetO.some_ (by simp [chk, hv]) h rfl (Below.refl _ _)

theorem RetO.trans {E : TypeId} {B B1 : Nat} {w w1 w' : World} {r : Option (List Int)} {e : Ending} (h : RetO E B1 w1 r e w') (hB : B ≤ B1) (hb : Below B w w1) : RetO E B w r e w' := by
  obtain ⟨A, c, he, ho, hb'⟩ := h
  exact ⟨A, c, he, ho.low hB, hb.trans (hb'.mono hB)⟩

/-- A value as EvalPoly returns it. -/
theorem EvalPoly_yes (A : Option Addr) (c : Nat) (p : List Int) (n : Int) (w : World) (h : SI w A p) (hv : validP p = true) (hn : inB n 200 = true) :
    Calls Try.prog 47 #[.slice A p.length c, .int .i64 n] w fun e w' => e = .returned (.tuple #[.int .i64 (val p n), .bool true]) ∧ w = w' := by
  have Hh := hd h
  obtain ⟨_, h7, hx⟩ := validP_iff.1 hv
  have hn2 := inB_iff.1 hn
  have hok := ValOk.of h7 hx (n := n) (by omega) (by omega)
  have Hok := hd hok
  clear h hok hx
  go_enter Try.func47, Try.ntmps47
  go_wp2_with (first
    | (go_at_call 28; refine (PolyValid_any A c p _ Hh.out).mono ?_; rintro e w' ⟨rfl, rfl⟩)
    | (go_at_call 88; refine (within_any n 200 _ (by decide) (by decide)).mono ?_; rintro e w' ⟨rfl, rfl⟩)
    | (go_at_call 83; refine (valueAt_any A c p n _ Hh.out h7 Hok.out (by omega) (by omega)).mono ?_; rintro e w' ⟨rfl, rfl⟩))
  go_ret2
  exact ⟨rfl, rfl⟩

theorem EvalPoly_no (A : Option Addr) (c : Nat) (p : List Int) (n : Int) (w : World) (h : SI w A p) (hv : (validP p && inB n 200) = false) :
    Calls Try.prog 47 #[.slice A p.length c, .int .i64 n] w fun e w' => e = .returned (.tuple #[.int .i64 0, .bool false]) ∧ w = w' := by
  have Hh := hd h
  clear h
  cases h1 : validP p
  · clear hv
    go_enter Try.func47, Try.ntmps47
    go_wp2_with (go_at_call 28; refine (PolyValid_any A c p _ Hh.out).mono ?_; rintro e w' ⟨rfl, rfl⟩)
    go_ret2
    exact ⟨rfl, rfl⟩
  · have hn : inB n 200 = false := by simpa [h1] using hv
    clear hv
    go_enter Try.func47, Try.ntmps47
    go_wp2_with (first
      | (go_at_call 28; refine (PolyValid_any A c p _ Hh.out).mono ?_; rintro e w' ⟨rfl, rfl⟩)
      | (go_at_call 88; refine (within_any n 200 _ (by decide) (by decide)).mono ?_; rintro e w' ⟨rfl, rfl⟩))
    go_ret2
    exact ⟨rfl, rfl⟩

/-- The end of a function that has filled a row with values: first differences, checked. -/
theorem step_bd {p : List Int} (hv : validP p = true) (f : Int → Int) (hf : ∀ i : Nat, i < p.length → -60 ≤ f i ∧ f i ≤ 60) :
    ∀ k, k < (tab p.length fun i => val p (f i)).length → ∀ x ∈ nbrs k (tab p.length fun i => val p (f i)), -2000000000000000000 ≤ x ∧ x ≤ 2000000000000000000 := by
  obtain ⟨_, h7, _⟩ := validP_iff.1 hv
  refine nbrs_small (B := 10000000000000) (by decide) (by rw [tab_length]; exact h7) (by decide) ?_
  intro x hx
  obtain ⟨i, hi, rfl⟩ := tab_mem hx
  exact val60 hv (hf i hi).1 (hf i hi).2

set_option maxHeartbeats 400000 in
theorem StepPoly_any (A : Option Addr) (c : Nat) (p : List Int) (m : Int) (w : World) (h : SI w A p) :
    Calls Try.prog 31 #[.slice A p.length c, .int .i64 m] w fun e w' => RetO 3 w.heap.size w (stepP p m) e w' := by
  obtain ⟨i0, hi, hz0, hz1, hz2⟩ := info_parts infoI
  have Hh := hd h
  clear h
  cases hv : validP p
  · have Hf : Hid (stepP p m = none) := hd (by simp [stepP, hv])
    go_enter Try.func31, Try.ntmps31
    go_wp2_with (go_at_call 28; refine (PolyValid_any A c p _ Hh.out).mono ?_; rintro e w' ⟨rfl, rfl⟩)
    go_ret2
    exact RetO.none_ Hf.out (Below.refl _ _)
  · by_cases hm1 : 1 ≤ m
    · by_cases hm2 : m ≤ 10
      · obtain ⟨_, h7, hx⟩ := validP_iff.1 hv
        have Hf : Hid (stepP p m = chk (fd (tab p.length fun i => val p (m * i)))) := hd (by simp [stepP, hv, hm1, hm2])
        have hmi : ∀ i : Nat, i < p.length → -60 ≤ m * i ∧ m * i ≤ 60 := fun i hi => by
          have := mul_bd m i 10 6 (by decide) (by omega) (by omega) (by omega) (by omega)
          have := Int.mul_nonneg (by omega : 0 ≤ m) (by omega : (0 : Int) ≤ i)
          omega
        have HB := hd (step_bd hv (fun i => m * i) hmi)
        have Hmi := hd hmi
        have Hx := hd hx
        have Htl := hd (tab_length p.length fun i => val p (m * i))
        clear hmi hx
        go_enter Try.func31, Try.ntmps31
        go_wp2_with (first
          | (go_at_call 28; refine (PolyValid_any A c p _ Hh.out).mono ?_; rintro e w' ⟨rfl, rfl⟩)
          | (at_make; refine wpList_make_full _ rfl _ _ 23 rfl w.heap.size 3 i0 (.int .i64 0) 1 Try.underlying23 hi hz0 hz1 .i64 .i64 _ _ p.length rfl rfl rfl rfl (by rw [hz2]; omega) (by unfold maxLen; omega) (Nat.le_refl _) ?_; intro w1 hown hgrow))
        have how0 := OW.made hown (by omega)
        have hbel0 : Below w.heap.size w w1 := (Below.refl _ _).grown hgrow (Nat.le_refl _) (by simp)
        clear hown hgrow
        go_loopw [24] (fun i wr => ∃ (k : Nat) (xs : List Int), k ≤ p.length ∧ i = .int .i64 k ∧ xs.take k = (tab p.length fun i => val p (m * i)).take k ∧ OW 3 w.heap.size wr w.heap.size p.length xs ∧ Below w.heap.size w wr)
          (fun i _ => p.length - (intOf i).toNat)
        case atStart => exact ⟨0, List.replicate p.length 0, by omega, rfl, rfl, how0, hbel0⟩
        case round =>
          clear how0 hbel0
          obtain ⟨k, xs, hk, rfl, hxt, how, hbel⟩ := hrel
          have Hxt := hd hxt
          clear hxt
          by_cases hlt : k < p.length
          · obtain ⟨hmk1, hmk2⟩ := Hmi.out k hlt
            have Hs := hd (Hh.out.below hbel)
            have Hok := hd (ValOk.of h7 Hx.out (n := m * k) (by omega) (by omega))
            obtain ⟨o, ho, hco⟩ := how.cell hlt
            have hfo := how.frozen k
            clear ho
            go_wp2_with (go_at_call 83; refine (valueAt_any A c p (m * k) _ Hs.out h7 Hok.out (by omega) (by omega)).mono ?_; rintro e w' ⟨rfl, rfl⟩)
            go_roundw
            case rel => exact ⟨k + 1, xs.set k (val p (m * k)), by omega, by go_num, take_set_succ (by have := how.1; omega) Hxt.out (tab_at _ hlt), how.set k _, hbel.setCell (Nat.le_refl _) _⟩
            case measure => simp [intOf]; omega
          · obtain rfl : k = p.length := by omega
            have hxs : xs = tab p.length fun i => val p (m * i) := by
              have h1 := Hxt.out
              rw [List.take_of_length_le (by have := how.1; omega), List.take_of_length_le (by rw [tab_length]; omega)] at h1
              exact h1
            subst hxs
            have Ho := hd how.own.si
            have hsz := how.lt.2
            go_wp2_with (go_at_call 84; refine (firstDifferences_n _ _ _ (tab p.length fun i => val p (m * i)) _ Htl.out Ho.out HB.out).mono ?_; rintro e w2 ⟨A2, c2, rfl, own2, bel2⟩)
            have bel3 := bel2.mono (Nat.le_of_lt hsz)
            go_wp2_with (go_at_call 75; refine (checked_own _ _ _ _ _ _ own2).mono ?_; rintro e w3 ⟨A3, c3, rfl, own3, bel4⟩)
            go_ret2
            rw [Hf.out]
            exact ⟨A3, c3, rfl, own3.low (Nat.le_of_lt hsz), (hbel.trans bel3).trans (bel4.mono (Nat.le_of_lt hsz))⟩
      · have Hf : Hid (stepP p m = none) := hd (by simp [stepP, hm2])
        go_enter Try.func31, Try.ntmps31
        go_wp2_with (go_at_call 28; refine (PolyValid_any A c p _ Hh.out).mono ?_; rintro e w' ⟨rfl, rfl⟩)
        go_ret2
        exact RetO.none_ Hf.out (Below.refl _ _)
    · have Hf : Hid (stepP p m = none) := hd (by simp [stepP, hm1])
      go_enter Try.func31, Try.ntmps31
      go_wp2_with (go_at_call 28; refine (PolyValid_any A c p _ Hh.out).mono ?_; rintro e w' ⟨rfl, rfl⟩)
      go_ret2
      exact RetO.none_ Hf.out (Below.refl _ _)

set_option maxHeartbeats 400000 in
theorem TurnPoly_any (A : Option Addr) (c : Nat) (p : List Int) (w : World) (h : SI w A p) :
    Calls Try.prog 36 #[.slice A p.length c] w fun e w' => RetO 3 w.heap.size w (turnP p) e w' := by
  obtain ⟨i0, hi, hz0, hz1, hz2⟩ := info_parts infoI
  have Hh := hd h
  clear h
  cases hv : validP p
  · have Hf : Hid (turnP p = none) := hd (by simp [turnP, hv])
    go_enter Try.func36, Try.ntmps36
    go_wp2_with (go_at_call 28; refine (PolyValid_any A c p _ Hh.out).mono ?_; rintro e w' ⟨rfl, rfl⟩)
    go_ret2
    exact RetO.none_ Hf.out (Below.refl _ _)
  · obtain ⟨_, h7, hx⟩ := validP_iff.1 hv
    have Hf : Hid (turnP p = chk (fd (tab p.length fun i => val p (-i)))) := hd (by simp [turnP, hv])
    have HB := hd (step_bd hv (fun i => -i) (fun i hi => by omega))
    have Hx := hd hx
    have Htl := hd (tab_length p.length fun i => val p (-i))
    clear hx
    go_enter Try.func36, Try.ntmps36
    go_wp2_with (first
      | (go_at_call 28; refine (PolyValid_any A c p _ Hh.out).mono ?_; rintro e w' ⟨rfl, rfl⟩)
      | (at_make; refine wpList_make_full _ rfl _ _ 23 rfl w.heap.size 3 i0 (.int .i64 0) 1 Try.underlying23 hi hz0 hz1 .i64 .i64 _ _ p.length rfl rfl rfl rfl (by rw [hz2]; omega) (by unfold maxLen; omega) (Nat.le_refl _) ?_; intro w1 hown hgrow))
    have how0 := OW.made hown (by omega)
    have hbel0 : Below w.heap.size w w1 := (Below.refl _ _).grown hgrow (Nat.le_refl _) (by simp)
    clear hown hgrow
    go_loopw [14] (fun i wr => ∃ (k : Nat) (xs : List Int), k ≤ p.length ∧ i = .int .i64 k ∧ xs.take k = (tab p.length fun i => val p (-i)).take k ∧ OW 3 w.heap.size wr w.heap.size p.length xs ∧ Below w.heap.size w wr)
      (fun i _ => p.length - (intOf i).toNat)
    case atStart => exact ⟨0, List.replicate p.length 0, by omega, rfl, rfl, how0, hbel0⟩
    case round =>
      clear how0 hbel0
      obtain ⟨k, xs, hk, rfl, hxt, how, hbel⟩ := hrel
      have Hxt := hd hxt
      clear hxt
      by_cases hlt : k < p.length
      · have Hs := hd (Hh.out.below hbel)
        have Hok := hd (ValOk.of h7 Hx.out (n := -(k : Int)) (by omega) (by omega))
        obtain ⟨o, ho, hco⟩ := how.cell hlt
        have hfo := how.frozen k
        clear ho
        go_wp2_with (go_at_call 83; refine (valueAt_any A c p (-(k : Int)) _ Hs.out h7 Hok.out (by omega) (by omega)).mono ?_; rintro e w' ⟨rfl, rfl⟩)
        go_roundw
        case rel => exact ⟨k + 1, xs.set k (val p (-k)), by omega, by go_num, take_set_succ (by have := how.1; omega) Hxt.out (tab_at _ hlt), how.set k _, hbel.setCell (Nat.le_refl _) _⟩
        case measure => simp [intOf]; omega
      · obtain rfl : k = p.length := by omega
        have hxs : xs = tab p.length fun i => val p (-i) := by
          have h1 := Hxt.out
          rw [List.take_of_length_le (by have := how.1; omega), List.take_of_length_le (by rw [tab_length]; omega)] at h1
          exact h1
        subst hxs
        have Ho := hd how.own.si
        have hsz := how.lt.2
        go_wp2_with (go_at_call 84; refine (firstDifferences_n _ _ _ (tab p.length fun i => val p (-i)) _ Htl.out Ho.out HB.out).mono ?_; rintro e w2 ⟨A2, c2, rfl, own2, bel2⟩)
        have bel3 := bel2.mono (Nat.le_of_lt hsz)
        go_wp2_with (go_at_call 75; refine (checked_own _ _ _ _ _ _ own2).mono ?_; rintro e w3 ⟨A3, c3, rfl, own3, bel4⟩)
        go_ret2
        rw [Hf.out]
        exact ⟨A3, c3, rfl, own3.low (Nat.le_of_lt hsz), (hbel.trans bel3).trans (bel4.mono (Nat.le_of_lt hsz))⟩

theorem mul_bd' {p q : List Int} (hp : validP p = true) (hq : validP q = true) (hl : p.length + q.length - 1 ≤ 7) :
    ∀ k, k < (tab (p.length + q.length - 1) fun n => val p n * val q n).length → ∀ x ∈ nbrs k (tab (p.length + q.length - 1) fun n => val p n * val q n), -2000000000000000000 ≤ x ∧ x ≤ 2000000000000000000 := by
  refine nbrs_small (B := 10000000000000000) (by decide) (by rw [tab_length]; exact hl) (by decide) ?_
  intro x hx
  obtain ⟨i, hi, rfl⟩ := tab_mem hx
  have h1 := val6 hp i (by omega)
  have h2 := val6 hq i (by omega)
  have := mul_bd _ _ 100000000 100000000 (by decide) h1.1 h1.2 h2.1 h2.2
  omega

set_option maxHeartbeats 800000 in
theorem MulPolys_any (A A' : Option Addr) (c c' : Nat) (p q : List Int) (w : World) (h : SI w A p) (h' : SI w A' q) :
    Calls Try.prog 62 #[.slice A p.length c, .slice A' q.length c'] w fun e w' => RetO 3 w.heap.size w (mulP p q) e w' := by
  obtain ⟨i0, hi, hz0, hz1, hz2⟩ := info_parts infoI
  have hl1 := h.len
  have hl2 := h'.len
  have Hh := hd h
  have Hh' := hd h'
  clear h h'
  cases hv : validP p
  · have Hf : Hid (mulP p q = none) := hd (by simp [mulP, hv])
    go_enter Try.func62, Try.ntmps62
    go_wp2_with (go_at_call 28; refine (PolyValid_any A c p _ Hh.out).mono ?_; rintro e w' ⟨rfl, rfl⟩)
    go_ret2
    exact RetO.none_ Hf.out (Below.refl _ _)
  cases hv' : validP q
  · have Hf : Hid (mulP p q = none) := hd (by simp [mulP, hv'])
    go_enter Try.func62, Try.ntmps62
    go_wp2_with fail
    refine (PolyValid_any A c p _ Hh.out).mono ?_
    rintro e w' ⟨rfl, rfl⟩
    go_wp2_with fail
    refine (PolyValid_any A' c' q _ Hh'.out).mono ?_
    rintro e w' ⟨rfl, rfl⟩
    go_wp2
    go_ret2
    exact RetO.none_ Hf.out (Below.refl _ _)
  obtain ⟨h1, h7, hx⟩ := validP_iff.1 hv
  obtain ⟨h1', h7', hx'⟩ := validP_iff.1 hv'
  by_cases hl : p.length + q.length - 1 ≤ 7
  · have Hf : Hid (mulP p q = chk (fd (tab (p.length + q.length - 1) fun n => val p n * val q n))) := hd (by simp [mulP, hv, hv', hl])
    have HB := hd (mul_bd' hv hv' hl)
    have Hv6 := hd (fun (i : Nat) (h : i ≤ 6) => val6 hv i h)
    have Hv6' := hd (fun (i : Nat) (h : i ≤ 6) => val6 hv' i h)
    have Htl := hd (tab_length (p.length + q.length - 1) fun n => val p n * val q n)
    obtain ⟨m, hm⟩ : ∃ m, m = p.length + q.length - 1 := ⟨_, rfl⟩
    rw [← hm] at Hf HB Htl
    have Hm := hd hm
    have Hx := hd hx
    have Hx' := hd hx'
    have hm7 : m ≤ 7 := by omega
    have hml : (p.length : Int) + q.length - 1 ≤ 7 := by omega
    clear hm hx hx' hl
    go_enter Try.func62, Try.ntmps62
    go_wp2_with fail
    refine (PolyValid_any A c p _ Hh.out).mono ?_
    rintro e w' ⟨rfl, rfl⟩
    go_wp2_with fail
    refine (PolyValid_any A' c' q _ Hh'.out).mono ?_
    rintro e w' ⟨rfl, rfl⟩
    go_wp2_with (at_make; refine wpList_make_full _ rfl _ _ 23 rfl w.heap.size 3 i0 (.int .i64 0) 1 Try.underlying23 hi hz0 hz1 .i64 .i64 _ _ m rfl rfl (by have := Hm.out; omega) (by have := Hm.out; omega) (by rw [hz2]; omega) (by unfold maxLen; omega) (Nat.le_refl _) ?_; intro w1 hown hgrow)
    have how0 := OW.made hown (by omega)
    have hbel0 : Below w.heap.size w w1 := (Below.refl _ _).grown hgrow (Nat.le_refl _) (by simp)
    clear hown hgrow
    go_loopw [34] (fun i wr => ∃ (k : Nat) (xs : List Int), k ≤ m ∧ i = .int .i64 k ∧ xs.take k = (tab m fun n => val p n * val q n).take k ∧ OW 3 w.heap.size wr w.heap.size m xs ∧ Below w.heap.size w wr)
      (fun i _ => m - (intOf i).toNat)
    case atStart => exact ⟨0, List.replicate m 0, by omega, rfl, rfl, how0, hbel0⟩
    case round =>
      clear how0 hbel0
      obtain ⟨k, xs, hk, rfl, hxt, how, hbel⟩ := hrel
      have Hxt := hd hxt
      clear hxt
      by_cases hlt : k < m
      · have Hs := hd (Hh.out.below hbel)
        have Hs' := hd (Hh'.out.below hbel)
        have Hok := hd (ValOk.of h7 Hx.out (n := (k : Int)) (by omega) (by omega))
        have Hok' := hd (ValOk.of h7' Hx'.out (n := (k : Int)) (by omega) (by omega))
        obtain ⟨o, ho, hco⟩ := how.cell hlt
        have hfo := how.frozen k
        have b1 := Hv6.out k (by omega)
        have b2 := Hv6'.out k (by omega)
        have b3 := mul_bd _ _ 100000000 100000000 (by decide) b1.1 b1.2 b2.1 b2.2
        have b4 : -10000000000000000 ≤ val p k * val q k := by omega
        have b5 : val p k * val q k ≤ 10000000000000000 := by omega
        clear ho b1 b2 b3
        go_wp2_with fail
        refine (valueAt_any A c p k _ Hs.out h7 Hok.out (by omega) (by omega)).mono ?_
        rintro e w' ⟨rfl, rfl⟩
        go_wp2_with fail
        refine (valueAt_any A' c' q k _ Hs'.out h7' Hok'.out (by omega) (by omega)).mono ?_
        rintro e w' ⟨rfl, rfl⟩
        go_wp2
        go_roundw
        case rel => exact ⟨k + 1, xs.set k (val p k * val q k), by omega, by go_num, take_set_succ (by have := how.1; omega) Hxt.out (tab_at _ hlt), how.set k _, hbel.setCell (Nat.le_refl _) _⟩
        case measure => simp [intOf]; omega
      · obtain rfl : k = m := by omega
        have hxs : xs = tab k fun n => val p n * val q n := by
          have h1 := Hxt.out
          rw [List.take_of_length_le (by have := how.1; omega), List.take_of_length_le (by rw [tab_length]; omega)] at h1
          exact h1
        subst hxs
        have Ho := hd how.own.si
        have hsz := how.lt.2
        go_wp2_with (go_at_call 84; refine (firstDifferences_n _ _ _ (tab k fun n => val p n * val q n) _ Htl.out Ho.out HB.out).mono ?_; rintro e w2 ⟨A2, c2, rfl, own2, bel2⟩)
        have bel3 := bel2.mono (Nat.le_of_lt hsz)
        go_wp2_with (go_at_call 75; refine (checked_own _ _ _ _ _ _ own2).mono ?_; rintro e w3 ⟨A3, c3, rfl, own3, bel4⟩)
        go_ret2
        rw [Hf.out]
        exact ⟨A3, c3, rfl, own3.low (Nat.le_of_lt hsz), (hbel.trans bel3).trans (bel4.mono (Nat.le_of_lt hsz))⟩
  · have Hf : Hid (mulP p q = none) := hd (by simp [mulP, hl])
    have hml : ¬ (p.length : Int) + q.length - 1 ≤ 7 := by omega
    clear hx hx' hl
    go_enter Try.func62, Try.ntmps62
    go_wp2_with fail
    refine (PolyValid_any A c p _ Hh.out).mono ?_
    rintro e w' ⟨rfl, rfl⟩
    go_wp2_with fail
    refine (PolyValid_any A' c' q _ Hh'.out).mono ?_
    rintro e w' ⟨rfl, rfl⟩
    go_wp2
    go_ret2
    exact RetO.none_ Hf.out (Below.refl _ _)

end Go.Proofs.Ythoodhdcmckkpaa
