/- Merged out of the texts EngF EngH EngI. -/
import Derived.Test.YtkmblobfamhoiaaGrE
import Derived.Test.YtkmblobfamhoiaaSpeT
import Derived.Test.YtkmblobfamhoiaaGrC
import Derived.Test.YtkmblobfamhoiaaGrF
/- The contracts of both sides' ReadEngine, for whatever comes in. -/
namespace Go.Proofs.Ytkmblobfamhoiaa
open Go.RowKit
set_option maxRecDepth 4000

theorem readF_none {cs : List ByteArray} (h : engV cs = false) : readF cs = none := by rw [readF, if_neg (by rw [h]; simp)]
theorem readF_some {cs : List ByteArray} (h : engV cs = true) : readF cs = chk ((cvs cs).map (sgn (hsz cs))) := by rw [readF, if_pos h]

theorem sPolyValid_k (m : Nat) (A : Option Addr) (c : Nat) (p : List Int) (w : World) (hm : p.length = m) (h : SI w A p) :
    Calls Try.prog 127 #[.slice A m c] w fun e w' => e = .returned (.bool (validP p)) ∧ w = w' := by
  subst hm; exact sPolyValid_any A c p w h
theorem RetO.lit0 {E : TypeId} {w w' : World} {r : Option (List Int)} (h : r = none) (hb : Below w.heap.size w w') : RetO E w.heap.size w r (.returned (.tuple #[.slice (some ⟨w'.heap.size, 0, none⟩) 0 0, .bool false])) (w'.alloc (.cells #[] E)) := by
  subst h
  exact ⟨_, _, rfl, (OwnI.lit0 E w').low hb.size, hb.alloc hb.size _⟩

set_option maxHeartbeats 1600000 in
theorem ReadEngine_any (n : Nat) (A : Option Addr) (c : Nat) (cs : List ByteArray) (w : World) (hn : cs.length = n) (h : SS w A cs) (hs : Short cs) :
    Calls Try.prog 47 #[.agg #[.slice A n c]] w fun e w' => RetO 3 w.heap.size w (readF cs) e w' := by
  obtain ⟨i0, hi, hz0, hz1, hz2⟩ := info_parts infoI
  have Hh := hd h
  have Hs := hd hs
  have Hn := hd hn
  have Box := hd (Cl.new w (.slice A n c) 36)
  have Bel := hd ((Below.refl w.heap.size w).alloc (Nat.le_refl _) (.cells #[.slice A n c] 36))
  clear h hs hn
  cases hv : engV cs
  · have Hf := hd (readF_none hv)
    have Hv := hd hv
    clear hv
    go_enter Try.func47, Try.ntmps47
    go_wp2_with fail
    refine (EngineValid_b _ A c cs false _ Hn.out (Hh.out.alloc _) Hs.out Hv.out).mono ?_
    rintro e w1 ⟨rfl, b1⟩
    have Bel2 := hd (Bel.out.trans (b1.mono (by simp)))
    clear b1
    go_wp2
    go_ret2
    exact RetO.none_ Hf.out Bel2.out
  · have Hf := hd (readF_some hv)
    obtain ⟨he, hW1, hW12, hn1, hn7⟩ := engV_vals hv
    obtain ⟨W, hW⟩ : ∃ W, W = hsz cs := ⟨_, rfl⟩
    obtain ⟨vs, hvs⟩ : ∃ vs, vs = cvs cs := ⟨_, rfl⟩
    rw [← hW, ← hvs] at he Hf
    rw [← hW] at hW1 hW12
    rw [← hvs] at hn1 hn7
    have Hl : Hid (vs.length = n) := hd (by rw [hvs, ← Hn.out]; simp [cvs])
    rw [Hl.out] at hn1 hn7
    obtain ⟨us, Hus⟩ : ∃ us, Hid (vs.map (sgn W) = us) := ⟨_, hd rfl⟩
    have Hul : Hid (us.length = n) := hd (by rw [← Hus.out, List.length_map, Hl.out])
    have He := hd he
    have Hv := hd hv
    clear he hv hW hvs
    rw [Hus.out] at Hf
    go_enter Try.func47, Try.ntmps47
    go_wp2_with fail
    refine (EngineValid_b _ A c cs true _ Hn.out (Hh.out.alloc _) Hs.out Hv.out).mono ?_
    rintro e w1 ⟨rfl, b1⟩
    have Bel2 := hd (Bel.out.trans (b1.mono (by simp)))
    have Box := hd (Box.out.below b1)
    have S1 : Hid (SS w1 A (eng W vs)) := hd (by rw [← He.out]; exact Hh.out.below Bel2.out)
    obtain ⟨c1, f1, -⟩ := Box.out
    have hsz : w.heap.size ≤ w1.heap.size := Bel2.out.size
    clear b1
    go_wp2_with (at_make; refine wpList_make_full _ rfl _ _ 23 rfl w1.heap.size 3 i0 (.int .i64 0) 1 Try.underlying23 hi hz0 hz1 .i64 .i64 _ _ n rfl rfl rfl rfl (by rw [hz2]; omega) (by unfold maxLen; omega) (Nat.le_refl _) ?_; intro w2 hown hgrow; have Hb2 := hd ((Below.refl w1.heap.size w1).grown hgrow (Nat.le_refl _) (by simp)); have Box2 := hd (Box.out.below Hb2.out); have How := hd (OW.made hown (by omega)); clear c1 f1 hown hgrow; obtain ⟨c1, f1, -⟩ := Box2.out)
    have Bel3 := hd (Bel2.out.trans (Hb2.out.mono hsz))
    go_loopw [17] (fun i wr => ∃ (k : Nat) (xs : List Int), k ≤ n ∧ i = .int .i64 k ∧ xs.take k = us.take k ∧ OW 3 w1.heap.size wr w1.heap.size n xs ∧ Below w.heap.size w wr)
      (fun i _ => n - (intOf i).toNat)
    case atStart => exact ⟨0, List.replicate n 0, by omega, rfl, rfl, How.out, Bel3.out⟩
    case round =>
      clear How Bel3 c1 f1 Hb2
      obtain ⟨k, xs, hk, rfl, hxt, how, hbel⟩ := hrel
      have Hxt := hd hxt
      clear hxt
      by_cases hlt : k < n
      · have hl := Hl.out
        obtain ⟨v, Hv_⟩ : ∃ v, Hid (vs[k]? = some v) := ⟨vs[k], hd (List.getElem?_eq_getElem (by omega))⟩
        have Hux : Hid (us[k]? = some (sgn W v)) := hd (by rw [← Hus.out, List.getElem?_map, Hv_.out]; rfl)
        have HS : Hid (SS wr A (eng W vs)) := hd (by rw [← He.out]; exact Hh.out.below hbel)
        obtain ⟨s1, b, off, hs1, rfl, hb, hc1⟩ := HS.out.at_ (k := k) (by rw [eng_length, hl]; omega)
        obtain rfl : s1 = showC W v := by rw [eng_at Hv_.out] at hs1; injection hs1 with hs1; exact hs1.symm
        obtain ⟨o, ho, hco⟩ := how.cell hlt
        have hfo := how.frozen k
        clear ho hs1 hl
        go_wp2_with (go_at_call 108; refine (signed_c W v _ hW1 hW12).mono ?_; rintro e w' ⟨rfl, rfl⟩)
        go_roundw
        case rel => exact ⟨k + 1, xs.set k (sgn W v), by omega, by go_num, take_set_succ (by have := how.1; omega) Hxt.out Hux.out, how.set k _, hbel.setCell (show w.heap.size ≤ w1.heap.size from hsz) _⟩
        case measure => simp [intOf]; omega
      · obtain rfl : k = n := by omega
        have hxs : xs = us := by
          have h1 := Hxt.out
          rw [List.take_of_length_le (by have := how.1; omega), List.take_of_length_le (by rw [Hul.out]; omega)] at h1
          exact h1
        subst hxs
        have Ho := hd how.own
        have hul := Hul.out
        subst hul
        go_wp2_with (go_at_call 109; refine (checked_own _ _ _ _ _ _ Ho.out).mono ?_; rintro e w3 ⟨A3, c3, rfl, own3, bel4⟩)
        go_ret2
        rw [Hf.out]
        exact ⟨A3, c3, rfl, own3.low hsz, hbel.trans (bel4.mono hsz)⟩

set_option maxHeartbeats 1600000 in
theorem sReadEngine_any (n : Nat) (A : Option Addr) (c : Nat) (cs : List ByteArray) (w : World) (hn : cs.length = n) (h : SS w A cs) (hs : Short cs) :
    Calls Try.prog 65 #[.agg #[.slice A n c]] w fun e w' => RetO 3 w.heap.size w (readF cs) e w' := by
  obtain ⟨i0, hi, hz0, hz1, hz2⟩ := info_parts infoI
  have Hh := hd h
  have Hs := hd hs
  have Hn := hd hn
  have Box := hd (Cl.new w (.slice A n c) 36)
  have Bel := hd ((Below.refl w.heap.size w).alloc (Nat.le_refl _) (.cells #[.slice A n c] 36))
  have hsz0 : (w.alloc (.cells #[.slice A n c] 36)).heap.size = w.heap.size + 1 := by simp
  have Own0 := hd ((OwnI.lit0 3 (w.alloc (.cells #[.slice A n c] 36))).low (B' := w.heap.size + 1) (by simp))
  rw [hsz0] at Own0
  have Box := hd (Box.out.alloc (.cells #[] 3))
  have Bel := hd (Bel.out.alloc (by simp) (.cells #[] 3))
  clear h hs hn hsz0
  cases hv : engV cs
  · have Hf := hd (readF_none hv)
    have Hv := hd hv
    clear hv
    go_enter Try.func65, Try.ntmps65
    go_wp2_with fail
    refine (sEngineValid_b _ A c cs false _ Hn.out (Hh.out.below Bel.out) Hs.out Hv.out).mono ?_
    rintro e w1 ⟨rfl, b1⟩
    have Own1 := hd (Own0.out.below b1)
    have Bel2 := hd (Bel.out.trans (b1.mono (by simp; omega)))
    clear b1
    go_wp2
    go_ret2
    rw [Hf.out]
    exact RetIB.own (zs := []) (Own1.out.low (B' := w.heap.size) (by omega)) rfl rfl Bel2.out
  · have Hf := hd (readF_some hv)
    obtain ⟨he, hW1, hW12, hn1, hn7⟩ := engV_vals hv
    obtain ⟨W, hW⟩ : ∃ W, W = hsz cs := ⟨_, rfl⟩
    obtain ⟨vs, hvs⟩ : ∃ vs, vs = cvs cs := ⟨_, rfl⟩
    rw [← hW, ← hvs] at he Hf
    rw [← hW] at hW1 hW12
    rw [← hvs] at hn1 hn7
    have Hl : Hid (vs.length = n) := hd (by rw [hvs, ← Hn.out]; simp [cvs])
    rw [Hl.out] at hn1 hn7
    obtain ⟨us, Hus⟩ : ∃ us, Hid (vs.map (sgn W) = us) := ⟨_, hd rfl⟩
    have Hul : Hid (us.length = n) := hd (by rw [← Hus.out, List.length_map, Hl.out])
    have He := hd he
    have Hv := hd hv
    clear he hv hW hvs
    rw [Hus.out] at Hf
    go_enter Try.func65, Try.ntmps65
    go_wp2_with fail
    refine (sEngineValid_b _ A c cs true _ Hn.out (Hh.out.below Bel.out) Hs.out Hv.out).mono ?_
    rintro e w1 ⟨rfl, b1⟩
    have Own1 := hd (Own0.out.below b1)
    have Bel2 := hd (Bel.out.trans (b1.mono (by simp; omega)))
    have Box2 := hd (Box.out.below b1)
    have hsz1 : w.heap.size + 1 ≤ w1.heap.size := Nat.lt_of_lt_of_le (Nat.lt_succ_self _) Box2.out.2.2
    clear b1 Box Own0
    obtain ⟨c1, f1, -⟩ := Box2.out
    go_wp2
    go_loopw [4, 5] (fun r i wr => ∃ (k : Nat) (A' : Option Addr) (c' : Nat), k ≤ n ∧ i = .int .i64 k ∧ r = .slice A' k c' ∧ OwnI 3 (w.heap.size + 1) wr A' c' (us.take k) ∧ Below w.heap.size w wr ∧ Cl wr w.heap.size (.slice A n c))
      (fun _ i _ => n - (intOf i).toNat)
    case atStart => exact ⟨0, _, _, by omega, rfl, rfl, Own1.out, Bel2.out, Box2.out⟩
    case round =>
      clear Own1 Bel2 Box2 c1 f1
      obtain ⟨k, A', c', hk, rfl, rfl, hown, hbel, hbox⟩ := hrel
      have Hown := hd hown
      have Hbox := hd hbox
      clear hown hbox
      obtain ⟨c1, f1, hsz2⟩ := Hbox.out
      by_cases hlt : k < n
      · have hl := Hl.out
        obtain ⟨v, Hv_⟩ : ∃ v, Hid (vs[k]? = some v) := ⟨vs[k], hd (List.getElem?_eq_getElem (by omega))⟩
        have Hux : Hid (us[k]? = some (sgn W v)) := hd (by rw [← Hus.out, List.getElem?_map, Hv_.out]; rfl)
        have HS : Hid (us.take (k + 1) = us.take k ++ [sgn W v]) := hd (by
          obtain ⟨h1, h2⟩ := List.getElem?_eq_some_iff.1 Hux.out
          rw [List.take_succ_eq_append_getElem h1, h2])
        have Htk : Hid ((us.take k).length = k) := hd (by rw [List.length_take, Hul.out]; omega)
        have HSS : Hid (SS wr A (eng W vs)) := hd (by rw [← He.out]; exact Hh.out.below hbel)
        obtain ⟨s1, b, off, hs1, rfl, hb, hc1⟩ := HSS.out.at_ (k := k) (by rw [eng_length, hl]; omega)
        obtain rfl : s1 = showC W v := by rw [eng_at Hv_.out] at hs1; injection hs1 with hs1; exact hs1.symm
        have hsz : w.heap.size ≤ wr.heap.size := hbel.size
        clear hs1 hl
        go_wp2_with (first
          | (go_at_call 75; refine (l1Signed_c W v _ hW1 hW12).mono ?_; rintro e w' ⟨rfl, rfl⟩)
          | (at_builtin; refine wpList_app1 rfl _ _ 23 3 rfl (w.heap.size + 1) i0 Try.underlying23 hi hz0 hz1 hz2 k A' c' _ wr.heap.size (sgn W v) rfl rfl Htk.out (new_cell _ _ _) (Hown.out.alloc _) (by omega) (by simp; omega) ?_; intro A2 c2 w2 hown2 hbel2 _))
        have Hown2 := hd hown2
        have Hbel2 := hd ((hbel.alloc hsz _).trans (hbel2.mono (by omega)))
        have Hbox2 := hd ((Hbox.out.alloc (.cells #[.int .i64 (sgn W v)] 3)).lowB hbel2 (by omega))
        clear hown2 hbel2 c1 f1
        go_wp2
        go_roundw
        case rel => exact ⟨k + 1, A2, c2, by omega, by go_num, rfl, by rw [HS.out]; exact Hown2.out, Hbel2.out, Hbox2.out⟩
        case measure => simp [intOf]; omega
      · obtain rfl : k = n := by omega
        have Ho : Hid (OwnI 3 (w.heap.size + 1) wr A' c' us) := hd (by
          have := Hown.out
          rwa [List.take_of_length_le (by rw [Hul.out]; omega)] at this)
        go_wp2_with fail
        refine (sPolyValid_k _ A' c' us _ Hul.out Ho.out.si).mono ?_
        rintro e w' ⟨rfl, rfl⟩
        cases hv2 : validP us
        · have Hg : Hid (readF cs = none) := hd (by rw [Hf.out, chk, hv2]; rfl)
          go_wp2
          go_ret2
          exact RetO.lit0 Hg.out hbel
        · have Hg : Hid (readF cs = some us) := hd (by rw [Hf.out, chk, hv2]; rfl)
          go_wp2
          go_ret2
          exact RetO.some_ Hg.out (Ho.out.low (by omega)) Hul.out.symm hbel

theorem readF_length {cs : List ByteArray} {z : List Int} (h : (readF cs).getD [] = z) : z.length ≤ 1048576 := by
  subst h
  cases hv : engV cs
  · rw [readF_none hv]; simp
  · rw [readF_some hv]
    unfold chk
    split
    · have := (engV_vals hv).2.2.2.2
      simp only [Option.getD_some, List.length_map]
      omega
    · simp
theorem sReadEngine_z (A : Option Addr) (c n : Nat) (cs : List ByteArray) (z : List Int) (ok : Bool) (w : World) (hn : cs.length = n) (h : SS w A cs) (hs : Short cs) (hz : (readF cs).getD [] = z ∧ (readF cs).isSome = ok) :
    Calls Try.prog 65 #[.agg #[.slice A n c]] w fun e w' => RetNB 3 w.heap.size w z ok e w' := by
  obtain ⟨rfl, rfl⟩ := hz
  exact sReadEngine_any n A c cs w hn h hs
theorem ReadEngine_z (A : Option Addr) (c n : Nat) (cs : List ByteArray) (z : List Int) (ok : Bool) (w : World) (hn : cs.length = n) (h : SS w A cs) (hs : Short cs) (hz : (readF cs).getD [] = z ∧ (readF cs).isSome = ok) :
    Calls Try.prog 47 #[.agg #[.slice A n c]] w fun e w' => RetNB 3 w.heap.size w z ok e w' := by
  obtain ⟨rfl, rfl⟩ := hz
  exact ReadEngine_any n A c cs w hn h hs

end Go.Proofs.Ytkmblobfamhoiaa

/- Contracts of both sides' functions that make a column of a number. -/
namespace Go.Proofs.Ytkmblobfamhoiaa
open Go.RowKit
set_option maxRecDepth 4000

theorem colO_out {x N : Int} (h : wV N = false) : colO x N = none := by
  unfold wV at h
  rw [colO, h]; rfl
theorem colO_not {x : Int} {W : Nat} (h : fitsB x W = false) : colO x W = none := by
  rw [colO, Int.toNat_natCast, h, Bool.and_false]; rfl
theorem colO_yes {x : Int} {W : Nat} (h1 : 1 ≤ W) (h12 : W ≤ 12) (h : fitsB x W = true) : colO x W = some (showC W x) := by
  have e1 : (1 : Int) ≤ W := by omega
  have e2 : (W : Int) ≤ 12 := by omega
  rw [colO, Int.toNat_natCast, h, if_pos (by simp [e1, e2])]
theorem colO_is {x N : Int} {s : ByteArray} (h : colO x N = some s) : s = showC N.toNat x ∧ 1 ≤ N ∧ N ≤ 12 ∧ fitsB x N.toNat = true := by
  unfold colO at h
  split at h
  · rename_i hc
    simp only [Bool.and_eq_true, decide_eq_true_eq] at hc
    injection h with h
    exact ⟨h.symm, hc.1.1, hc.1.2, hc.2⟩
  · cases h

/-- The first k numbers have a column. -/
def AllOk (us : List Int) (N : Int) (k : Nat) : Prop := ∀ i x, i < k → us[i]? = some x → colO x N = some (showC N.toNat x)
theorem AllOk.zero (us : List Int) (N : Int) : AllOk us N 0 := fun i _ h => absurd h (by omega)
theorem AllOk.succ {us : List Int} {N : Int} {k : Nat} {x : Int} (h : AllOk us N k) (hx : us[k]? = some x) (hc : colO x N = some (showC N.toNat x)) : AllOk us N (k + 1) := by
  intro i y hi hy
  by_cases e : i = k
  · subst e; rw [hx] at hy; injection hy with hy; subst hy; exact hc
  · exact h i y (by omega) hy
theorem setE_all {us : List Int} {N : Int} (h1 : 1 ≤ us.length) (h : AllOk us N us.length) : setE us N = some (eng N.toNat us) := by
  have h0 := colO_is (h 0 us[0] (by omega) (List.getElem?_eq_getElem (by omega)))
  refine setE_some h0.2.1 h0.2.2.1 (fitsAll_iff.2 fun v hv => ?_)
  obtain ⟨i, hi⟩ := List.getElem?_of_mem hv
  have hlt := (List.getElem?_eq_some_iff.1 hi).1
  exact (colO_is (h i v hlt hi)).2.2.2
theorem setE_fail {us : List Int} {N : Int} {k : Nat} {x : Int} (hx : us[k]? = some x) (h : colO x N = none) : setE us N = none := by
  cases hw : (decide (1 ≤ N) && decide (N ≤ 12))
  · exact setE_out hw
  · refine setE_bad hx ?_
    rw [colO, hw, Bool.true_and] at h
    cases hf : fitsB x N.toNat
    · rfl
    · rw [hf] at h; cases h

/-- A string and a bool, or none. -/
def RetSO (w : World) (r : Option ByteArray) (e : Ending) (w' : World) : Prop := RetSB w (r.getD ByteArray.empty) r.isSome e w'
theorem RetSO.none_ {w w' : World} {r : Option ByteArray} (h : r = none) (hb : Below w.heap.size w w') : RetSO w r (.returned (.tuple #[.string ByteArray.empty, .bool false])) w' := by
  subst h; exact ⟨rfl, hb⟩
theorem RetSO.some_ {w w' : World} {r : Option ByteArray} {s : ByteArray} (h : r = some s) (hb : Below w.heap.size w w') : RetSO w r (.returned (.tuple #[.string s, .bool true])) w' := by
  subst h; exact ⟨rfl, hb⟩

theorem widthValid_b (n : Int) (b : Bool) (w : World) (h : wV n = b) : Calls Try.prog 122 #[.int .i64 n] w fun e w' => e = .returned (.bool b) ∧ w = w' := by
  subst h; exact widthValid_any n w
theorem l1Width_b (n : Int) (b : Bool) (w : World) (h : wV n = b) : Calls Try.prog 114 #[.int .i64 n] w fun e w' => e = .returned (.bool b) ∧ w = w' := by
  subst h; exact l1Width_any n w

theorem wV_nat {N : Int} (h : wV N = true) : ∃ W : Nat, N = W ∧ 1 ≤ W ∧ W ≤ 12 := by
  simp only [wV, Bool.and_eq_true, decide_eq_true_eq] at h
  exact ⟨N.toNat, by omega, by omega, by omega⟩

set_option maxHeartbeats 800000 in
theorem ColumnOf_any (x N : Int) (w : World) :
    Calls Try.prog 112 #[.int .i64 x, .int .i64 N] w fun e w' => RetSO w (colO x N) e w' := by
  cases hw : wV N
  · have Hf := hd (colO_out (x := x) hw)
    go_enter Try.func112, Try.ntmps112
    go_wp2_with fail
    refine (widthValid_b N false _ hw).mono ?_
    rintro e w' ⟨rfl, rfl⟩
    go_wp2
    go_ret2
    exact RetSO.none_ Hf.out (Below.refl _ _)
  obtain ⟨W, rfl, h1, h12⟩ := wV_nat hw
  obtain ⟨ht1, ht2⟩ := ten_bd W h12
  obtain ⟨h, Hh, he5⟩ : ∃ h, Hid (ten W / 2 = h) ∧ 5 ≤ h := ⟨_, hd rfl, (ten_even W h1).2⟩
  have he : ten W = 2 * h := by have := (ten_even W h1).1; rw [Hh.out] at this; omega
  have q1 : (2 * h) / 2 = h := by omega
  have q2 : (-(2 * h)).tdiv 2 = -h := by rw [show -(2 * h) = (-h) * 2 by omega]; exact Int.mul_tdiv_cancel _ (by decide)
  have q3 : (2 * h).tdiv 2 = h := by rw [show (2 * h) = h * 2 by omega]; exact Int.mul_tdiv_cancel _ (by decide)
  by_cases hx1 : x < -h
  · have Hf : Hid (colO x W = none) := hd (colO_not (by simp [fitsB, Hh.out]; omega))
    go_enter Try.func112, Try.ntmps112
    go_wp2_with fail
    refine (widthValid_b W true _ hw).mono ?_
    rintro e w' ⟨rfl, rfl⟩
    go_wp2_with fail
    refine (powerOfTen_any W _ h12).mono ?_
    rintro e w' ⟨rfl, rfl⟩
    rw [he]
    go_wp2
    go_ret2
    exact RetSO.none_ Hf.out (Below.refl _ _)
  by_cases hx2 : x < h
  case neg =>
    have Hf : Hid (colO x W = none) := hd (colO_not (by simp [fitsB, Hh.out]; omega))
    go_enter Try.func112, Try.ntmps112
    go_wp2_with fail
    refine (widthValid_b W true _ hw).mono ?_
    rintro e w' ⟨rfl, rfl⟩
    go_wp2_with fail
    refine (powerOfTen_any W _ h12).mono ?_
    rintro e w' ⟨rfl, rfl⟩
    rw [he]
    go_wp2
    go_ret2
    exact RetSO.none_ Hf.out (Below.refl _ _)
  have Hf : Hid (colO x W = some (showC W x)) := hd (colO_yes h1 h12 (by simp [fitsB, Hh.out]; omega))
  have Hm : Hid (x % (2 * h) = x % ten W) := hd (by rw [he])
  go_enter Try.func112, Try.ntmps112
  go_wp2_with fail
  refine (widthValid_b W true _ hw).mono ?_
  rintro e w' ⟨rfl, rfl⟩
  go_wp2_with fail
  refine (powerOfTen_any W _ h12).mono ?_
  rintro e w' ⟨rfl, rfl⟩
  rw [he]
  go_wp2_with fail
  refine (modulo_any x (2 * h) _ (by omega) (by omega)).mono ?_
  rintro e w' ⟨rfl, rfl⟩
  go_wp2_with fail
  refine (showNumber_c W _ x _ h12 Hm.out).mono ?_
  rintro e w' ⟨rfl, bb⟩
  go_wp2
  go_ret2
  exact RetSO.some_ Hf.out bb

theorem l1Fits_b (x : Int) (W : Nat) (b : Bool) (w : World) (h1 : 1 ≤ W) (h12 : W ≤ 12) (hb : fitsB x W = b) :
    Calls Try.prog 124 #[.int .i64 x, .int .i64 W] w fun e w' => e = .returned (.bool b) ∧ w = w' := by
  subst hb
  obtain ⟨ht1, ht2⟩ := ten_bd W h12
  obtain ⟨h, Hh, he5⟩ : ∃ h, Hid (ten W / 2 = h) ∧ 5 ≤ h := ⟨_, hd rfl, (ten_even W h1).2⟩
  have he : ten W = 2 * h := by have := (ten_even W h1).1; rw [Hh.out] at this; omega
  have q1 : (2 * h) / 2 = h := by omega
  by_cases hx1 : x < -h
  · have Hf : Hid (fitsB x W = false) := hd (by simp [fitsB, Hh.out]; omega)
    go_enter Try.func124, Try.ntmps124
    go_wp2_with fail
    refine (l1Ten_w W _ h12).mono ?_
    rintro e w' ⟨rfl, rfl⟩
    rw [he]
    go_wp2
    go_ret
    exact ⟨ret_bool Hf.out.symm, rfl⟩
  by_cases hx2 : x < h
  · have Hf : Hid (fitsB x W = true) := hd (by simp [fitsB, Hh.out]; omega)
    go_enter Try.func124, Try.ntmps124
    go_wp2_with fail
    refine (l1Ten_w W _ h12).mono ?_
    rintro e w' ⟨rfl, rfl⟩
    rw [he]
    go_wp2
    go_ret
    exact ⟨ret_bool Hf.out.symm, rfl⟩
  · have Hf : Hid (fitsB x W = false) := hd (by simp [fitsB, Hh.out]; omega)
    go_enter Try.func124, Try.ntmps124
    go_wp2_with fail
    refine (l1Ten_w W _ h12).mono ?_
    rintro e w' ⟨rfl, rfl⟩
    rw [he]
    go_wp2
    go_ret
    exact ⟨ret_bool (by rw [Hf.out]; simp; omega), rfl⟩

set_option maxHeartbeats 800000 in
theorem sColumnOf_any (x N : Int) (w : World) :
    Calls Try.prog 115 #[.int .i64 x, .int .i64 N] w fun e w' => RetSO w (colO x N) e w' := by
  cases hw : wV N
  · have Hf := hd (colO_out (x := x) hw)
    go_enter Try.func115, Try.ntmps115
    go_wp2_with fail
    refine (l1Width_b N false _ hw).mono ?_
    rintro e w' ⟨rfl, rfl⟩
    go_wp2
    go_ret2
    exact RetSO.none_ Hf.out (Below.refl _ _)
  obtain ⟨W, rfl, h1, h12⟩ := wV_nat hw
  cases hf : fitsB x W
  · have Hf := hd (colO_not hf)
    go_enter Try.func115, Try.ntmps115
    go_wp2_with fail
    refine (l1Width_b W true _ hw).mono ?_
    rintro e w' ⟨rfl, rfl⟩
    go_wp2_with fail
    refine (l1Fits_b x W false _ h1 h12 hf).mono ?_
    rintro e w' ⟨rfl, rfl⟩
    go_wp2
    go_ret2
    exact RetSO.none_ Hf.out (Below.refl _ _)
  · have Hf := hd (colO_yes h1 h12 hf)
    go_enter Try.func115, Try.ntmps115
    go_wp2_with fail
    refine (l1Width_b W true _ hw).mono ?_
    rintro e w' ⟨rfl, rfl⟩
    go_wp2_with fail
    refine (l1Fits_b x W true _ h1 h12 hf).mono ?_
    rintro e w' ⟨rfl, rfl⟩
    go_wp2_with fail
    refine (l1Show_any x W _ h12).mono ?_
    rintro e w' ⟨rfl, bb⟩
    go_wp2
    go_ret2
    exact RetSO.some_ Hf.out bb

theorem WidenColumn_c (W : Nat) (x N : Int) (w : World) (h1 : 1 ≤ W) (h12 : W ≤ 12) :
    Calls Try.prog 106 #[.string (showC W x), .int .i64 N] w fun e w' => RetSO w (colO (sgn W x) N) e w' := by
  go_enter Try.func106, Try.ntmps106
  go_wp2_with fail
  refine (SignedOf_c W x _ h1 h12).mono ?_
  rintro e w' ⟨rfl, rfl⟩
  go_wp2_with fail
  refine (ColumnOf_any (sgn W x) N _).mono ?_
  rintro e w' ⟨rfl, bb⟩
  go_wp2
  go_ret2
  exact ⟨rfl, bb⟩

theorem sWidenColumn_c (W : Nat) (x N : Int) (w : World) (h1 : 1 ≤ W) (h12 : W ≤ 12) :
    Calls Try.prog 107 #[.string (showC W x), .int .i64 N] w fun e w' => RetSO w (colO (sgn W x) N) e w' := by
  have Hcv := hd (colV_showC x h1 h12)
  go_enter Try.func107, Try.ntmps107
  go_wp2_with fail
  refine (sColV (showC W x) true _ (by rw [showC_size]; omega) Hcv.out).mono ?_
  rintro e w' ⟨rfl, rfl⟩
  go_wp2_with fail
  refine (l1Signed_c W x _ h1 h12).mono ?_
  rintro e w' ⟨rfl, rfl⟩
  go_wp2_with fail
  refine (sColumnOf_any (sgn W x) N _).mono ?_
  rintro e w' ⟨rfl, bb⟩
  go_wp2
  go_ret2
  exact ⟨rfl, bb⟩

end Go.Proofs.Ytkmblobfamhoiaa

/- The contract of the program's WidenEngine, for whatever comes in. -/
namespace Go.Proofs.Ytkmblobfamhoiaa
open Go.RowKit
set_option maxRecDepth 4000

theorem widF_none {cs : List ByteArray} {N : Int} (h : engV cs = false) : widF cs N = none := by rw [widF, if_neg (by rw [h]; simp)]
theorem widF_some {cs : List ByteArray} {N : Int} (h : engV cs = true) : widF cs N = setE ((cvs cs).map (sgn (hsz cs))) N := by rw [widF, if_pos h]

set_option maxHeartbeats 3200000 in
theorem WidenEngine_any (A : Option Addr) (c n : Nat) (cs : List ByteArray) (N : Int) (w : World) (hn : cs.length = n) (h : SS w A cs) (hs : Short cs) :
    Calls Try.prog 45 #[.agg #[.slice A n c], .int .i64 N] w fun e w' => RetEO 9 w.heap.size w (widF cs N) e w' := by
  obtain ⟨i0, hi, hz0, hz1, hz2⟩ := info_parts infoS
  have Hh := hd h
  have Hs := hd hs
  have Hn := hd hn
  have C0 := hd (Cs.two w (.slice A n c) (.slice none 0 0) 36 36)
  clear h hs hn
  cases hv : engV cs
  · have Hf := hd (widF_none (N := N) hv)
    have Hv := hd hv
    clear hv
    go_enter Try.func45, Try.ntmps45
    go_wp2_with fail
    refine (EngineValid_b _ A c cs false _ Hn.out (Hh.out.below C0.out.1) Hs.out Hv.out).mono ?_
    rintro e w1 ⟨rfl, b1⟩
    have C1 := hd (C0.out.below b1)
    obtain ⟨⟨c1, f1, -⟩, ⟨c2, f2, -⟩⟩ := C1.out.at2
    clear b1
    go_wp2
    exact bodyPost_ret (v := .tuple #[.agg #[.slice none 0 0], .bool false]) (by simp [results, Try.results45, c1, go_sem]) rfl (RetEO.none_ Hf.out (C1.out.done (by omega) _))
  have Hv := hd hv
  have Hf0 := hd (widF_some (N := N) hv)
  obtain ⟨he, hW1, hW12, hn1, hn7⟩ := engV_vals hv
  have Hl : Hid ((cvs cs).length = n) := hd (by simp [cvs, Hn.out])
  obtain ⟨W, hW⟩ : ∃ W, W = hsz cs := ⟨_, rfl⟩
  obtain ⟨vs, hvs⟩ : ∃ vs, vs = cvs cs := ⟨_, rfl⟩
  rw [← hW, ← hvs] at he Hf0
  rw [← hW] at hW1 hW12
  rw [← hvs] at hn1 hn7 Hl
  rw [Hl.out] at hn1 hn7
  have He := hd he
  obtain ⟨us, Hus⟩ : ∃ us, Hid (vs.map (sgn W) = us) := ⟨_, hd rfl⟩
  rw [Hus.out] at Hf0
  have Hul : Hid (us.length = n) := hd (by rw [← Hus.out, List.length_map, Hl.out])
  clear hv he hW hvs
  go_enter Try.func45, Try.ntmps45
  go_wp2_with fail
  refine (EngineValid_b _ A c cs true _ Hn.out (Hh.out.below C0.out.1) Hs.out Hv.out).mono ?_
  rintro e w1 ⟨rfl, b1⟩
  have C1 := hd (C0.out.below b1)
  obtain ⟨⟨c1, f1, g1⟩, ⟨c2, f2, -⟩⟩ := C1.out.at2
  clear b1
  go_wp2_with (at_make; refine wpList_make_full _ rfl _ _ 30 rfl w1.heap.size 9 i0 (.string ByteArray.empty) 1 Try.underlying30 hi hz0 hz1 .i64 .i64 _ _ n rfl rfl rfl rfl (by rw [hz2]; omega) (by unfold maxLen; omega) (Nat.le_refl _) ?_; intro w3 hown hgrow; have Own3 : Hid (OwnS 9 (w.heap.size + 2) w3 (some ⟨w1.heap.size, 0, none⟩) n (List.replicate n ByteArray.empty)) := hd ((OwnG.made ByteArray.empty rfl hown (by omega)).low (by omega)); have C3 := hd (C1.out.below ((Below.refl w1.heap.size w1).grown hgrow (Nat.le_refl _) (by simp))); clear c1 f1 c2 f2 hown hgrow; obtain ⟨⟨c1, f1, -⟩, ⟨c2, f2, -⟩⟩ := C3.out.at2)
  obtain ⟨g, hg⟩ : ∃ g, g = w1.heap.size := ⟨_, rfl⟩
  rw [← hg] at Own3 g1 ⊢
  go_loopw [22] (fun i wr => ∃ (k : Nat) (xs : List ByteArray), k ≤ n ∧ i = .int .i64 k ∧ xs.length = n ∧ xs.take k = (eng N.toNat us).take k ∧ AllOk us N k ∧ OwnS 9 (w.heap.size + 2) wr (some ⟨g, 0, none⟩) n xs ∧ Cs w wr [(w.heap.size + 1, .slice none 0 0), (w.heap.size, .slice A n c)])
    (fun i _ => n - (intOf i).toNat)
  case atStart => exact ⟨0, List.replicate n ByteArray.empty, by omega, rfl, by simp, rfl, AllOk.zero _ _, Own3.out, C3.out⟩
  case round =>
    clear Own3 C3 c1 f1 c2 f2 hg
    obtain ⟨k, xs, hk, rfl, hxl, hxt, hok, own, cc⟩ := hrel
    have Hxl := hd hxl
    have Hxt := hd hxt
    have Hok := hd hok
    have Own := hd own
    have C4 := hd cc
    clear hxl hxt hok own cc
    obtain ⟨⟨c1, f1, -⟩, ⟨c2, f2, -⟩⟩ := C4.out.at2
    by_cases hlt : k < n
    · obtain ⟨x, Hx⟩ : ∃ x, Hid (vs[k]? = some x) := ⟨vs[k]'(by rw [Hl.out]; omega), hd (List.getElem?_eq_getElem _)⟩
      have Hu : Hid (us[k]? = some (sgn W x)) := hd (by rw [← Hus.out, List.getElem?_map, Hx.out]; rfl)
      have HS : Hid (SS wr A (eng W vs)) := hd (by rw [← He.out]; exact Hh.out.below C4.out.1)
      obtain ⟨s1, b, off, hs1, rfl, hb, hc1⟩ := HS.out.at_ (k := k) (by rw [eng_length, Hl.out]; omega)
      obtain rfl : s1 = showC W x := by rw [eng_at Hx.out] at hs1; injection hs1 with hs1; exact hs1.symm
      clear hs1
      cases hco : colO (sgn W x) N with
      | none =>
        have Hf : Hid (widF cs N = none) := hd (by rw [Hf0.out]; exact setE_fail Hu.out hco)
        have Hco := hd hco
        clear hco
        go_wp2_with fail
        refine (WidenColumn_c W x N _ hW1 hW12).mono ?_
        rintro e w4 ⟨rfl, b4⟩
        have C5 := hd (C4.out.below b4)
        rw [Hco.out]
        clear c1 f1 c2 f2 b4
        obtain ⟨⟨c1, f1, -⟩, ⟨c2, f2, -⟩⟩ := C5.out.at2
        simp only [Option.getD_none, Option.isSome_none]
        go_wp2
        exact bodyPost_ret (v := .tuple #[.agg #[.slice none 0 0], .bool false]) (by simp [results, Try.results45, c1, go_sem]) rfl (RetEO.none_ Hf.out (C5.out.done (by omega) _))
      | some s =>
        obtain ⟨rfl, -, -, -⟩ := colO_is hco
        have Hco := hd hco
        clear hco
        have Hz : Hid ((eng N.toNat us)[k]? = some (showC N.toNat (sgn W x))) := hd (eng_at Hu.out)
        go_wp2_with fail
        refine (WidenColumn_c W x N _ hW1 hW12).mono ?_
        rintro e w4 ⟨rfl, b4⟩
        have Own4 := hd (Own.out.below b4)
        have C5 := hd (C4.out.below b4)
        rw [Hco.out]
        clear c1 f1 c2 f2 b4
        obtain ⟨⟨c1, f1, -⟩, ⟨c2, f2, -⟩⟩ := C5.out.at2
        obtain ⟨g', o, ho, hg', hco2, hfo⟩ := Own4.out.at_ (k := k) (by rw [Hxl.out]; exact hlt)
        simp only [Option.some.injEq, Addr.mk.injEq, and_true] at hg'
        subst hg'
        clear ho
        have C6 := hd (C5.out.set (r := g) (by simp; omega) (by omega) k (.string (showC N.toNat (sgn W x))))
        simp only [Option.getD_some, Option.isSome_some]
        go_wp2
        go_roundw
        case rel => exact ⟨k + 1, xs.set k (showC N.toNat (sgn W x)), by omega, by go_num, by rw [List.length_set]; exact Hxl.out, take_set_succ (by rw [Hxl.out]; exact hlt) Hxt.out Hz.out, Hok.out.succ Hu.out Hco.out, Own4.out.set k _, C6.out⟩
        case measure => simp [intOf] <;> omega
    · obtain rfl : k = n := by omega
      have Hel : Hid ((eng N.toNat us).length = k) := hd (by rw [eng_length, Hul.out])
      have Hf : Hid (widF cs N = some (eng N.toNat us)) := hd (by rw [Hf0.out]; exact setE_all (by rw [Hul.out]; exact hn1) (by rw [Hul.out]; exact Hok.out))
      have Hxe : Hid (xs = eng N.toNat us) := hd (by
        have h1 := Hxt.out
        rwa [List.take_of_length_le (by rw [Hxl.out]; omega), List.take_of_length_le (by rw [Hel.out]; omega)] at h1)
      rw [Hxe.out] at Own
      have Ow := hd ((Own.out.keep_lo (grown_set wr ⟨w.heap.size + 1, 0, none⟩ (.slice (some ⟨g, 0, none⟩) k k)) (fun r hr => by simp at hr; omega)).low (show w.heap.size ≤ w.heap.size + 2 by omega))
      go_wp2
      exact bodyPost_ret (v := .tuple #[.agg #[.slice (some ⟨g, 0, none⟩) k k], .bool true]) (by simp [results, Try.results45, c1, go_sem]) rfl (RetEO.some_ Hf.out Ow.out Hel.out.symm (C4.out.done (by omega) _))

end Go.Proofs.Ytkmblobfamhoiaa
