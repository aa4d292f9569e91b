/- Parsing a polynomial, on both sides. -/
import Derived.Test.YtinhcdppdnmlgaaDoorTxF
import Derived.Test.YtinhcdppdnmlgaaDoorTxE
import Derived.Test.YtinhcdppdnmlgaaDoorTxC
import Derived.Test.YtinhcdppdnmlgaaDoorGrC
import Derived.Lib.SmallJoins
namespace Go.Proofs.YtinhcdppdnmlgaaDoor
open Go.RowKit
set_option maxRecDepth 4000

/-- The variable of Go's library that an error of Atoi bears holds some error. -/
def ErrV (w : World) : Prop := ∃ tp p, w.var? Tryd.prog "strconv.ErrSyntax" = some #[.iface tp p]
theorem ErrV.below {w w' : World} (h : ErrV w) (hb : Below w.heap.size w w') : ErrV w' := by
  obtain ⟨tp, p, h⟩ := h
  refine ⟨tp, p, ?_⟩
  unfold World.var? at h ⊢
  cases hg : Tryd.prog.globalNamed "strconv.ErrSyntax" with
  | none => rw [hg] at h; simp at h
  | some g =>
    rw [hg] at h
    simp only [Option.bind_some] at h ⊢
    have hlt : g < w.heap.size := by
      rcases Nat.lt_or_ge g w.heap.size with h' | h'
      · exact h'
      · rw [Array.getElem?_eq_none h'] at h; cases h
    rw [hb.block g hlt]
    exact h
/-- What of Go's library parsing reads. -/
def Env (w : World) : Prop := Tab w ∧ Mx w ∧ ErrV w
theorem Env.below {w w' : World} (h : Env w) (hb : Below w.heap.size w w') : Env w' := ⟨h.1.below hb, h.2.1.below hb, h.2.2.below hb⟩

theorem str_ne {X s : ByteArray} (h : X ≠ s) : (X.toList == s.toList) = false := by
  rw [beq_eq_false_iff_ne]
  intro e
  rw [ByteArray.toList_eq, ByteArray.toList_eq] at e
  exact h (by rw [← txt_data X, e, txt_data])
theorem str_ne' {X s : ByteArray} (h : X ≠ s) : ¬ X.toList = s.toList := by
  have := str_ne h
  rw [beq_eq_false_iff_ne] at this
  exact this

theorem Trim_w (s : ByteArray) (w : World) :
    Calls Tryd.prog 57 #[.string s, .string ⟨#[45]⟩] w fun e w' => e = .returned (.string ⟨(Lib.trimPrefix s.data.toList (⟨#[45]⟩ : ByteArray).data.toList).toArray⟩) ∧ w = w' :=
  (Tryd.strings_TrimPrefix s ⟨#[45]⟩ w).mono fun _ _ ⟨a, b⟩ => ⟨a, b.symm⟩

/-- A number and a bool are returned; nothing that was there before has changed. -/
def RetF (s : ByteArray) (w : World) (e : Ending) (w' : World) : Prop := e = .returned (.tuple #[.int .i64 ((numF s).getD 0), .bool (numF s).isSome]) ∧ Below w.heap.size w w'
theorem RetF.no {s : ByteArray} {w w' : World} (h : numF s = none) (hb : Below w.heap.size w w') : RetF s w (.returned (.tuple #[.int .i64 0, .bool false])) w' := by
  rw [RetF, h]; exact ⟨rfl, hb⟩
theorem RetF.yes {s : ByteArray} {n : Int} {w w' : World} (h : numF s = some n) (hb : Below w.heap.size w w') : RetF s w (.returned (.tuple #[.int .i64 n, .bool true])) w' := by
  rw [RetF, h]; exact ⟨rfl, hb⟩

set_option maxHeartbeats 1600000 in
theorem parseNumber_any (s : ByteArray) (w : World) (hs : s.size ≤ 1048576) (hE : Env w) :
    Calls Tryd.prog 44 #[.string s] w fun e w' => RetF s w e w' := by
  obtain ⟨T, HT⟩ : ∃ T, Hid ((⟨(Lib.trimPrefix s.data.toList (⟨#[45]⟩ : ByteArray).data.toList).toArray⟩ : ByteArray) = T) := ⟨_, hd rfl⟩
  have hTz : Hid (T.size = (Lib.trimPrefix s.data.toList [45]).length) := hd (by rw [← HT.out]; exact txt_size _)
  have hl := trim_len s.data.toList
  rw [str_len] at hl
  have HE := hd hE
  have HP := hd (Trim_w s w)
  rw [HT.out] at HP
  clear hE
  by_cases h17 : 17 < T.size
  · have Hf : Hid (numF s = none) := hd (by rw [numF, if_pos (by rw [← hTz.out]; exact h17)])
    have e1 : (17 : Int) < T.size := by omega
    go_enter Tryd.func44, Tryd.ntmps44
    go_wp2_with fail
    refine HP.out.mono ?_
    rintro e w' ⟨rfl, rfl⟩
    go_wp2
    go_ret2
    exact RetF.no Hf.out (Below.refl _ _)
  have e1 : ¬ (17 : Int) < T.size := by omega
  have h18 : s.size ≤ 18 := by rw [← hTz.out] at hl; omega
  have Hn0 : Hid (¬ 17 < (Lib.trimPrefix s.data.toList [45]).length) := hd (by rw [← hTz.out]; exact h17)
  cases ha : Lib.atoi s.data.toList with
  | none =>
    have Hf : Hid (numF s = none) := hd (by rw [numF, if_neg Hn0.out, ha])
    obtain ⟨tp, p, hv⟩ := HE.out.2.2
    have HA := hd (Tryd.strconv_Atoi_err_var s h18 ha tp p w hv)
    clear ha hv
    go_enter Tryd.func44, Tryd.ntmps44
    go_wp2_with fail
    refine HP.out.mono ?_
    rintro e w' ⟨rfl, rfl⟩
    go_wp2_with fail
    refine HA.out.mono ?_
    rintro e w1 ⟨N, rfl, -, -, b1⟩
    go_wp2
    go_ret2
    exact RetF.no Hf.out b1
  | some n =>
    obtain ⟨hb1, hb2⟩ := Lib.atoi_bound ha (by rw [str_len]; exact h18)
    have HA := hd (Tryd.strconv_Atoi s n h18 ha w)
    obtain ⟨X, HX⟩ : ∃ X, Hid (numB n = X) := ⟨_, hd rfl⟩
    by_cases he : X = s
    · have Hf : Hid (numF s = some n) := hd (by rw [numF, if_neg Hn0.out, ha]; show (if numB n = s then some n else none) = some n; rw [if_pos (by rw [HX.out, he])])
      have He := hd he
      clear ha he
      go_enter Tryd.func44, Tryd.ntmps44
      go_wp2_with fail
      refine HP.out.mono ?_
      rintro e w' ⟨rfl, rfl⟩
      go_wp2_with fail
      refine HA.out.mono ?_
      rintro e w1 ⟨rfl, t, hw1⟩
      have b1 : Below w.heap.size w w1 := by rw [hw1]; exact Joins.below_bytesWorld _ _ _ _ (Nat.le_refl _)
      have Tb := hd (HE.out.1.below b1)
      clear hw1
      go_wp2_with fail
      refine (Itoa_b n _ Tb.out (by omega) (by omega)).mono ?_
      rintro e w2 ⟨rfl, b2⟩
      rw [HX.out, He.out]
      have k2 := b1.trans (b2.mono b1.size)
      clear b1 b2
      go_wp2
      go_ret2
      exact RetF.yes Hf.out k2
    · have Hf : Hid (numF s = none) := hd (by rw [numF, if_neg Hn0.out, ha]; show (if numB n = s then some n else none) = none; rw [if_neg (by rw [HX.out]; exact he)])
      have hq1 := str_ne he
      have hq2 := str_ne' he
      clear ha he
      go_enter Tryd.func44, Tryd.ntmps44
      go_wp2_with fail
      refine HP.out.mono ?_
      rintro e w' ⟨rfl, rfl⟩
      go_wp2_with fail
      refine HA.out.mono ?_
      rintro e w1 ⟨rfl, t, hw1⟩
      have b1 : Below w.heap.size w w1 := by rw [hw1]; exact Joins.below_bytesWorld _ _ _ _ (Nat.le_refl _)
      have Tb := hd (HE.out.1.below b1)
      clear hw1
      go_wp2_with fail
      refine (Itoa_b n _ Tb.out (by omega) (by omega)).mono ?_
      rintro e w2 ⟨rfl, b2⟩
      rw [HX.out]
      have k2 := b1.trans (b2.mono b1.size)
      clear b1 b2
      go_wp2
      go_ret2
      exact RetF.no Hf.out k2

/-- The numbers of a text, or nothing, are returned. -/
def RetS1 (E : TypeId) (s : ByteArray) (w : World) (e : Ending) (w' : World) : Prop :=
  (∃ A c xs, e = .returned (.tuple #[.slice A xs.length c, .bool true]) ∧ OwnG (Value.int .i64) E w.heap.size w' A c xs ∧ Below w.heap.size w w' ∧ xs.map some = (cutB s).map numF) ∨
  (e = .returned (.tuple #[.slice none 0 0, .bool false]) ∧ Below w.heap.size w w' ∧ ∃ c ∈ cutB s, numF c = none)
theorem RetS1.no {E : TypeId} {s : ByteArray} {w w' : World} {c : ByteArray} {k : Nat} (hk : (cutB s)[k]? = some c) (h : numF c = none) (hb : Below w.heap.size w w') : RetS1 E s w (.returned (.tuple #[.slice none 0 0, .bool false])) w' :=
  .inr ⟨rfl, hb, c, List.mem_of_getElem? hk, h⟩
theorem RetS1.yes {E : TypeId} {s : ByteArray} {w w' : World} {A : Option Addr} {c n : Nat} {xs : List Int} (hn : xs.length = n) (ho : OwnG (Value.int .i64) E w.heap.size w' A c xs) (hb : Below w.heap.size w w') (h : xs.map some = (cutB s).map numF) : RetS1 E s w (.returned (.tuple #[.slice A n c, .bool true])) w' := by
  subst hn; exact .inl ⟨A, c, xs, rfl, ho, hb, h⟩

set_option maxHeartbeats 3200000 in
theorem splitNumbers_any (s : ByteArray) (w : World) (hs : s.size ≤ 1048576) (hE : Env w) :
    Calls Tryd.prog 26 #[.string s] w fun e w' => RetS1 3 s w e w' := by
  obtain ⟨i0, hi, hz0, hz1, hz2⟩ := info_parts infoI
  have HE := hd hE
  have Hsh := hd (cutB_short hs)
  obtain ⟨m, Hm⟩ : ∃ m, Hid ((cutB s).length = m) := ⟨_, hd rfl⟩
  have hm1 := cutB_length s
  rw [Hm.out] at hm1
  obtain ⟨hm1, hm2⟩ := hm1
  have HS := hd (Split_b s w hs hE.2.1)
  clear hE
  go_enter Tryd.func26, Tryd.ntmps26
  go_wp2_with fail
  refine HS.out.mono ?_
  rintro e w1 ⟨A, c, rfl, own, b1⟩
  rw [Hm.out]
  have Own := hd own
  have B1 := hd b1
  obtain ⟨gA, hgA, hgA1, hgA2⟩ := own.addr (by rw [Hm.out]; exact hm1)
  subst hgA
  clear own b1
  go_wp2_with (at_make; refine wpList_make_full _ rfl _ _ 22 rfl w1.heap.size 3 i0 (.int .i64 0) 1 Tryd.underlying22 hi hz0 hz1 .i64 .i64 _ _ m rfl rfl rfl rfl (by rw [hz2]; omega) (by unfold maxLen; omega) (Nat.le_refl _) ?_; intro w2 hown hgrow)
  have L0 : Hid (OwnG (Value.int .i64) 3 w1.heap.size w2 (some ⟨w1.heap.size, 0, none⟩) m (List.replicate m 0)) := hd (OwnG.made 0 rfl hown (by omega))
  have B2 := hd ((Below.refl w1.heap.size w1).grown hgrow (Nat.le_refl _) (by simp))
  clear hown hgrow
  go_loopw [17] (fun i wr => ∃ (k : Nat) (xs : List Int), k ≤ m ∧ i = .int .i64 k ∧ xs.length = m ∧ (xs.map some).take k = ((cutB s).map numF).take k ∧ OwnG (Value.int .i64) 3 w1.heap.size wr (some ⟨w1.heap.size, 0, none⟩) m xs ∧ Below w1.heap.size w1 wr)
    (fun i _ => m - (intOf i).toNat)
  case atStart => exact ⟨0, List.replicate m 0, by omega, rfl, by simp, rfl, L0.out, B2.out⟩
  case round =>
    clear L0 B2
    obtain ⟨k, xs, hk, rfl, hxl, hxt, own, bw⟩ := hrel
    have Hxl := hd hxl
    have Hxt := hd hxt
    have L := hd own
    have Bw := hd bw
    clear hxl hxt own bw
    have Kw := hd (B1.out.trans (Bw.out.mono B1.out.size))
    by_cases hlt : k < m
    · obtain ⟨x, hx⟩ : ∃ x, (cutB s)[k]? = some x := ⟨(cutB s)[k]'(by rw [Hm.out]; exact hlt), List.getElem?_eq_getElem _⟩
      have Hx := hd hx
      have hxz := Hsh.out x (List.mem_of_getElem? hx)
      clear hx
      have hcx := ((Own.out.sg.below Bw.out).cellT Hx.out).1
      rw [Nat.zero_add] at hcx
      have HEr := hd (HE.out.below Kw.out)
      have HPn := hd (parseNumber_any x wr hxz HEr.out)
      cases hn : numF x with
      | none =>
        have Hn := hd hn
        clear hn
        go_wp2_with fail
        refine HPn.out.mono ?_
        rintro e w4 ⟨rfl, b4⟩
        rw [Hn.out]
        have K4 := Kw.out.trans (b4.mono Kw.out.size)
        clear b4
        go_wp2
        go_ret2
        exact RetS1.no Hx.out Hn.out K4
      | some v =>
        have Hn := hd hn
        clear hn
        go_wp2_with fail
        refine HPn.out.mono ?_
        rintro e w4 ⟨rfl, b4⟩
        rw [Hn.out]
        have L4 := hd (L.out.below b4)
        have Bw4 := hd (Bw.out.trans (b4.mono Bw.out.size))
        clear b4 hcx
        obtain ⟨g', o, ho, hg', hco2, hfo⟩ := L4.out.at_ (k := k) (by rw [Hxl.out]; exact hlt)
        simp only [Option.some.injEq, Addr.mk.injEq, and_true] at hg'
        subst hg'
        have Hn1 : Hid (((xs.set k v).map some).take (k + 1) = ((cutB s).map numF).take (k + 1)) := hd (by
          rw [List.map_set]
          exact take_set_succ (by rw [List.length_map, Hxl.out]; exact hlt) Hxt.out (by rw [List.getElem?_map, Hx.out]; exact congrArg some Hn.out))
        have Hl1 : Hid ((xs.set k v).length = m) := hd (by rw [List.length_set]; exact Hxl.out)
        have L5 := hd (L4.out.set k v)
        have Bw5 := hd (Bw4.out.setCell (p := ⟨w1.heap.size, k, none⟩) (Nat.le_refl _) (.int .i64 v))
        clear ho
        go_wp2
        go_roundw
        case rel => exact ⟨k + 1, _, by omega, by go_num, Hl1.out, Hn1.out, L5.out, Bw5.out⟩
        case measure => simp [intOf] <;> omega
    · obtain rfl : k = m := by omega
      have Hxs : Hid (xs.map some = (cutB s).map numF) := hd (by
        have h1 := Hxt.out
        rw [List.take_of_length_le (by rw [List.length_map, Hxl.out]; exact Nat.le_refl _), List.take_of_length_le (by rw [List.length_map, Hm.out]; exact Nat.le_refl _)] at h1
        exact h1)
      go_wp2
      go_ret2
      exact RetS1.yes Hxl.out (L.out.low B1.out.size) Kw.out Hxs.out

theorem nums_of {s : ByteArray} {xs : List Int} (h : xs.map some = (cutB s).map numF) : xs ≠ [] ∧ numsB xs = s := by
  have hl : xs.length = (cutB s).length := by have := congrArg List.length h; simpa using this
  have hc := (cutB_length s).1
  refine ⟨fun e => by subst e; simp at hl; omega, ?_⟩
  have e : xs.map numB = cutB s := by
    apply List.ext_getElem?
    intro k
    have hk := congrArg (·[k]?) h
    simp only [List.getElem?_map] at hk ⊢
    cases hx : xs[k]? with
    | none => rw [hx] at hk; cases hc2 : (cutB s)[k]? with
      | none => rfl
      | some c => rw [hc2] at hk; simp at hk
    | some v => rw [hx] at hk; cases hc2 : (cutB s)[k]? with
      | none => rw [hc2] at hk; simp at hk
      | some c =>
        rw [hc2] at hk
        simp only [Option.map_some, Option.some.injEq] at hk
        rw [Option.map_some, numF_is hk.symm]
  rw [numsB, e, joinB_cut]
theorem poly_bad {s c : ByteArray} (hc : c ∈ cutB s) (h : numF c = none) : polyF s = none := by
  refine polyF_none fun p hp => ?_
  obtain ⟨hv, rfl⟩ := hp
  rw [cutB_nums (valid_ne hv)] at hc
  obtain ⟨n, hn, rfl⟩ := List.mem_map.1 hc
  have := (validP_iff.1 hv).2.2 n hn
  rw [numF_small this.1 this.2] at h
  cases h
theorem poly_chk {s : ByteArray} {xs : List Int} (h : xs.map some = (cutB s).map numF) : chk xs = polyF s := by
  obtain ⟨hne, hx⟩ := nums_of h
  cases hv : validP xs
  · rw [polyF_none fun p hp => ?_]
    · simp [chk, hv]
    · have := numsB_inj (valid_ne hp.1) hne (hp.2.trans hx.symm)
      subst this
      rw [hp.1] at hv; cases hv
  · rw [polyF_some ⟨hv, hx⟩]; simp [chk, hv]

set_option maxHeartbeats 800000 in
theorem ParsePoly_z (s : ByteArray) (z : List Int) (ok : Bool) (w : World) (hs : s.size ≤ 1048576) (hE : Env w) (hz : (polyF s).getD [] = z ∧ (polyF s).isSome = ok) :
    Calls Tryd.prog 8 #[.string s] w fun e w' => RetNB 3 w.heap.size w z ok e w' := by
  obtain ⟨rfl, rfl⟩ := hz
  have HS := hd (splitNumbers_any s w hs hE)
  clear hE
  go_enter Tryd.func8, Tryd.ntmps8
  go_wp2_with fail
  refine HS.out.mono ?_
  rintro e w1 (⟨A, c, xs, rfl, own, b1, hx⟩ | ⟨rfl, b1, c, hc, hn⟩)
  · have Hx := hd (poly_chk hx)
    obtain ⟨n, Hn⟩ : ∃ n, Hid (xs.length = n) := ⟨_, hd rfl⟩
    rw [Hn.out]
    have HC := hd (checked_n n 3 w.heap.size A c xs w1 Hn.out own)
    rw [Hx.out] at HC
    clear hx own
    go_wp2_with fail
    refine HC.out.mono ?_
    rintro e w2 ⟨A2, c2, rfl, own2, b2⟩
    have k2 := b1.trans b2
    go_wp2
    go_ret2
    exact ⟨A2, c2, rfl, own2, k2⟩
  · have Hf := hd (poly_bad hc hn)
    clear hc hn
    go_wp2
    go_ret2
    rw [Hf.out]
    exact RetNB.of (RetIB.empty rfl rfl b1)

/-- The loop of the reference. -/
def PpR (s : ByteArray) (w : World) (o i : Value) (wr : World) : Prop :=
  ∃ (k : Nat) (A : Option Addr) (c : Nat) (xs : List Int), o = .slice A k c ∧ i = .int .i64 k ∧ xs.length = k ∧ k ≤ (cutB s).length ∧ k ≤ 8 ∧ OwnG (Value.int .i64) 3 w.heap.size wr A c xs ∧ Below w.heap.size w wr ∧
    (∀ j x c', j < k → xs[j]? = some x → (cutB s)[j]? = some c' → Num9 c' x ∧ (c'.size = 0 → x = 0)) ∧ (k = 0 → A = some ⟨w.heap.size, 0, none⟩)

theorem poly_yes {s : ByteArray} {xs : List Int} {k : Nat} (hl : xs.length = k) (hk : k = (cutB s).length ∨ k = 8) (hk2 : k ≤ (cutB s).length) (h : ∀ j x c', j < k → xs[j]? = some x → (cutB s)[j]? = some c' → Num9 c' x ∧ (c'.size = 0 → x = 0)) (he : fmtP xs = s) : polyF s = some xs := by
  cases hv : validP xs
  · exfalso
    rw [fmtP_no hv] at he
    subst he
    have hc : cutB ⟨#[]⟩ = [txt []] := rfl
    rw [hc] at hk hk2 h
    have hk1 : k = 1 := by
      rcases hk with hk | hk
      · simpa using hk
      · subst hk; simp at hk2
    subst hk1
    cases xs with
    | nil => simp at hl
    | cons x r =>
      have hr : r = [] := List.eq_nil_of_length_eq_zero (by simpa using hl)
      subst hr
      have := (h 0 x (txt []) (by decide) rfl rfl).2 rfl
      subst this
      exact absurd hv (by decide)
  · exact polyF_some ⟨hv, by rw [← fmtP_yes hv]; exact he⟩
theorem poly_no {s : ByteArray} {xs : List Int} {k : Nat} (hl : xs.length = k) (hk : k = (cutB s).length ∨ k = 8) (hk2 : k ≤ (cutB s).length) (h : ∀ j x c', j < k → xs[j]? = some x → (cutB s)[j]? = some c' → Num9 c' x ∧ (c'.size = 0 → x = 0)) (he : fmtP xs ≠ s) : polyF s = none := by
  refine polyF_none fun p hp => he ?_
  obtain ⟨hv, rfl⟩ := hp
  have hc := cutB_nums (valid_ne hv)
  obtain ⟨_, h7, hx⟩ := validP_iff.1 hv
  rw [hc, List.length_map] at hk hk2
  have hk1 : k = p.length ∨ k = 8 := hk
  have e : xs = p := by
    have hle : ∀ j, j < k → j < p.length → xs[j]? = p[j]? := fun j hj hjp => by
      have h1 : xs[j]? = some (xs[j]'(by omega)) := List.getElem?_eq_getElem _
      have h2 : p[j]? = some p[j] := List.getElem?_eq_getElem _
      have h3 := (h j _ (numB p[j]) hj h1 (by rw [hc, List.getElem?_map, h2]; rfl)).1
      have h4 := hx p[j] (List.getElem_mem _)
      rw [h1, h2, h3 p[j] h4.1 h4.2 rfl]
    have hkp : k = p.length ∨ p.length < k := by omega
    rcases hkp with hkp | hkp
    · apply List.ext_getElem?
      intro j
      by_cases hj : j < k
      · exact hle j hj (by omega)
      · rw [List.getElem?_eq_none (by omega), List.getElem?_eq_none (by omega)]
    · omega
  rw [e, fmtP_yes hv]

/-- The list under way lies apart from the pieces. -/
theorem apart_of {w wr : World} {E : TypeId} {A : Option Addr} {c k gA : Nat} {xs : List Int} {cs : List ByteArray} (own : OwnG (Value.int .i64) E w.heap.size wr A c xs) (hl : xs.length = k) (h0 : k = 0 → A = some ⟨w.heap.size, 0, none⟩) (hg : w.heap.size < gA)
    (hp : SS wr (some ⟨gA, 0, none⟩) cs) (hc : 1 ≤ cs.length) : ∃ g, A = some ⟨g, 0, none⟩ ∧ g ≠ gA := by
  rcases Nat.eq_zero_or_pos k with hk | hk
  · exact ⟨w.heap.size, h0 hk, by omega⟩
  · obtain ⟨g, x, _, hA, hx, _⟩ := own.at_ (k := 0) (by omega)
    refine ⟨g, hA, fun e => ?_⟩
    subst e
    have h2 := (hp.cellT (List.getElem?_eq_getElem hc)).1
    rw [Nat.add_zero, hx] at h2
    cases h2

set_option maxHeartbeats 3200000 in
theorem sParsePoly_z (s : ByteArray) (z : List Int) (ok : Bool) (w : World) (hs : s.size ≤ 1048576) (hE : Env w) (hz : (polyF s).getD [] = z ∧ (polyF s).isSome = ok) :
    Calls Tryd.prog 7 #[.string s] w fun e w' => RetNB 3 w.heap.size w z ok e w' := by
  obtain ⟨rfl, rfl⟩ := hz
  obtain ⟨i0, hi, hz0, hz1, hz2⟩ := info_parts infoI
  have HE := hd hE
  have Hsh := hd (cutB_short hs)
  obtain ⟨m, Hm⟩ : ∃ m, Hid ((cutB s).length = m) := ⟨_, hd rfl⟩
  have hm1 := cutB_length s
  rw [Hm.out] at hm1
  obtain ⟨hm1, hm2⟩ := hm1
  have L0 := hd (OwnG.lit0 (Value.int .i64) 3 w)
  have HC := hd (l9Cut_any s (w.alloc (.cells #[] 3)) hs)
  have b0 : Below w.heap.size w (w.alloc (.cells #[] 3)) := (Below.refl _ _).alloc (Nat.le_refl _) _
  clear hE
  go_enter Tryd.func7, Tryd.ntmps7
  go_wp2_with fail
  refine HC.out.mono ?_
  rintro e w1 ⟨A, c, rfl, own, b1⟩
  rw [Hm.out]
  obtain ⟨gA, hgA, hgA1, hgA2⟩ := own.addr (by rw [Hm.out]; exact hm1)
  subst hgA
  have hgw : w.heap.size < gA := by simp at hgA1; omega
  have Sp := hd own.sg
  have L1 := hd (L0.out.below b1)
  have k1 := b0.trans (b1.mono b0.size)
  have H0 : Hid (PpR s w (.slice (some ⟨w.heap.size, 0, none⟩) 0 0) (.int .i64 0) w1) := hd ⟨0, _, _, [], rfl, rfl, rfl, by omega, by omega, L1.out, k1, fun j x c' h => by omega, fun _ => rfl⟩
  clear own b1 hgA1 hgA2
  go_wp2
  go_loopw [4, 6] (fun o i wr => PpR s w o i wr ∧ SS wr (some ⟨gA, 0, none⟩) (cutB s)) (fun _ i _ => 8 - (intOf i).toNat)
  case atStart => exact ⟨H0.out, Sp.out⟩
  case round =>
    clear H0 Sp L1
    obtain ⟨⟨k, A, c, xs, rfl, rfl, hxl, hkm, hk8, own, bw, hall, hA0⟩, sp⟩ := hrel
    obtain ⟨gO, hAO, hne⟩ := apart_of own hxl hA0 hgw sp (by rw [Hm.out]; exact hm1)
    subst hAO
    rw [Hm.out] at hkm
    have Own := hd own
    have Bw := hd bw
    have Sp := hd sp
    have Hall := hd hall
    have Hxl := hd hxl
    have hwr : w.heap.size ≤ wr.heap.size := bw.size
    clear own bw sp hall hxl hA0
    by_cases hlt : k < m ∧ k ≤ 7
    · obtain ⟨hlt, hk7⟩ := hlt
      obtain ⟨x, hx⟩ : ∃ x, (cutB s)[k]? = some x := ⟨(cutB s)[k]'(by rw [Hm.out]; exact hlt), List.getElem?_eq_getElem _⟩
      have Hx := hd hx
      have hxz := Hsh.out x (List.mem_of_getElem? hx)
      clear hx
      have hcx := (Sp.out.cellT Hx.out).1
      rw [Nat.zero_add] at hcx
      have g1 : (k : Int) < m := by omega
      have g2 : (k : Int) ≤ 7 := by omega
      have HN := hd (l9Num_any x wr hxz)
      go_wp2_with fail
      refine HN.out.mono ?_
      rintro e w4 ⟨v, okb, rfl, hv, rfl⟩
      have Hv := hd hv
      clear hv
      go_wp2_with (at_builtin; refine wpList_appG (f := Value.int .i64) rfl _ _ 22 3 rfl w.heap.size i0 (.int .i64 0) 8 Tryd.underlying22 hi hz0 hz1 hz2 rfl (by decide) k (some ⟨gO, 0, none⟩) c xs wr.heap.size v rfl rfl rfl Hxl.out (new_cell _ _ _) (Own.out.alloc _) (by omega) (by simp; omega) ?_; intro A5 c5 w7 own7 gr7 b7 hz7; have Own7 := hd own7; have Sp7 := hd ((Sp.out.alloc (.cells #[.int .i64 v] 3)).grown (g := gO) gr7 (fun a ha => by simp only [Option.some.injEq] at ha; subst ha; exact fun e => hne e.symm)); have Bw7 := hd ((Bw.out.alloc hwr (.cells #[.int .i64 v] 3)).trans b7); clear own7 b7 gr7 hz7 hcx)
      have Hn : Hid (∀ j x c', j < k + 1 → (xs ++ [v])[j]? = some x → (cutB s)[j]? = some c' → Num9 c' x ∧ (c'.size = 0 → x = 0)) := hd (fun j y c' hj hy hc' => by
        by_cases hjk : j < k
        · rw [List.getElem?_append_left (by rw [Hxl.out]; exact hjk)] at hy
          exact Hall.out j y c' hjk hy hc'
        · obtain rfl : j = k := by omega
          rw [List.getElem?_append_right (by rw [Hxl.out]; exact Nat.le_refl _), Hxl.out, Nat.sub_self] at hy
          simp only [List.getElem?_cons_zero, Option.some.injEq] at hy
          subst hy
          obtain rfl : x = c' := Option.some.inj (Hx.out.symm.trans hc')
          exact Hv.out)
      have Hl : Hid ((xs ++ [v]).length = k + 1) := hd (by rw [List.length_append, Hxl.out]; rfl)
      go_roundw
      case rel => exact ⟨⟨k + 1, A5, c5, xs ++ [v], by go_num, by go_num, Hl.out, by rw [Hm.out]; omega, by omega, Own7.out, Bw7.out, Hn.out, fun h => by omega⟩, Sp7.out⟩
      case measure => simp [intOf] <;> omega
    · have Hk : Hid (k = (cutB s).length ∨ k = 8) := hd (by rw [Hm.out]; omega)
      have Hk2 : Hid (k ≤ (cutB s).length) := hd (by rw [Hm.out]; exact hkm)
      have Tb := hd (HE.out.1.below Bw.out)
      obtain ⟨X, HX⟩ : ∃ X, Hid (fmtP xs = X) := ⟨_, hd rfl⟩
      have HF := hd (sFormatPoly_z (some ⟨gO, 0, none⟩) c k xs X wr Hxl.out Own.out.sg Tb.out HX.out)
      by_cases he : X = s
      · have Hr := hd (poly_yes Hxl.out Hk.out Hk2.out Hall.out (HX.out.trans he))
        subst he
        by_cases hkl : k < m
        · have g1 : (k : Int) < m := by omega
          have g2 : ¬ (k : Int) ≤ 7 := by omega
          clear hlt
          go_wp2_with fail
          refine HF.out.mono ?_
          rintro e w5 ⟨rfl, b5⟩
          have K5 := hd (Bw.out.trans (b5.mono hwr))
          have O5 := hd (Own.out.below b5)
          clear b5
          go_wp2
          go_ret2
          rw [Hr.out]
          exact ⟨_, c, by rw [Option.getD_some, Hxl.out]; rfl, O5.out, K5.out⟩
        · have g1 : ¬ (k : Int) < m := by omega
          clear hlt
          go_wp2_with fail
          refine HF.out.mono ?_
          rintro e w5 ⟨rfl, b5⟩
          have K5 := hd (Bw.out.trans (b5.mono hwr))
          have O5 := hd (Own.out.below b5)
          clear b5
          go_wp2
          go_ret2
          rw [Hr.out]
          exact ⟨_, c, by rw [Option.getD_some, Hxl.out]; rfl, O5.out, K5.out⟩
      · have Hr := hd (poly_no Hxl.out Hk.out Hk2.out Hall.out (by rw [HX.out]; exact he))
        have hq1 := str_ne he
        have hq2 := str_ne' he
        clear he
        by_cases hkl : k < m
        · have g1 : (k : Int) < m := by omega
          have g2 : ¬ (k : Int) ≤ 7 := by omega
          clear hlt
          go_wp2_with fail
          refine HF.out.mono ?_
          rintro e w5 ⟨rfl, b5⟩
          have K5 := hd (Bw.out.trans (b5.mono hwr))
          have hw5 : w.heap.size ≤ w5.heap.size := Nat.le_trans hwr b5.size
          have O5 := hd ((OwnG.lit0 (Value.int .i64) 3 w5).low hw5)
          have K6 := hd (K5.out.alloc hw5 (.cells #[] 3))
          clear b5
          go_wp2
          go_ret2
          rw [Hr.out]
          exact ⟨_, 0, rfl, O5.out, K6.out⟩
        · have g1 : ¬ (k : Int) < m := by omega
          clear hlt
          go_wp2_with fail
          refine HF.out.mono ?_
          rintro e w5 ⟨rfl, b5⟩
          have K5 := hd (Bw.out.trans (b5.mono hwr))
          have hw5 : w.heap.size ≤ w5.heap.size := Nat.le_trans hwr b5.size
          have O5 := hd ((OwnG.lit0 (Value.int .i64) 3 w5).low hw5)
          have K6 := hd (K5.out.alloc hw5 (.cells #[] 3))
          clear b5
          go_wp2
          go_ret2
          rw [Hr.out]
          exact ⟨_, 0, rfl, O5.out, K6.out⟩

end Go.Proofs.YtinhcdppdnmlgaaDoor
