/- The contracts of both sides' ReadEngine, for whatever comes in. -/
import Derived.Test.YtcalheieakppmaaEngC
import Derived.Test.YtcalheieakppmaaSpeT
import Derived.Test.YtcalheieakppmaaPolyC
import Derived.Test.YtcalheieakppmaaSpecA
namespace Go.Proofs.Ytcalheieakppmaa
open Go.RowKit
set_option maxRecDepth 4000

theorem readF_none {cs : List ByteArray} (h : engV cs = false) : readF cs = none := by rw [readF, if_neg (by rw [h]; simp)]
theorem readF_some {cs : List ByteArray} (h : engV cs = true) : readF cs = chk ((cvs cs).map (sgn (hsz cs))) := by rw [readF, if_pos h]

theorem sPolyValid_k (m : Nat) (A : Option Addr) (c : Nat) (p : List Int) (w : World) (hm : p.length = m) (h : SI w A p) :
    Calls Try.prog 92 #[.slice A m c] w fun e w' => e = .returned (.bool (validP p)) ∧ w = w' := by
  subst hm; exact sPolyValid_any A c p w h
theorem RetO.lit0 {E : TypeId} {w w' : World} {r : Option (List Int)} (h : r = none) (hb : Below w.heap.size w w') : RetO E w.heap.size w r (.returned (.tuple #[.slice (some ⟨w'.heap.size, 0, none⟩) 0 0, .bool false])) (w'.alloc (.cells #[] E)) := by
  subst h
  exact ⟨_, _, rfl, (OwnI.lit0 E w').low hb.size, hb.alloc hb.size _⟩

theorem Cl.lowB {w w' : World} {g B : Nat} {v : Value} (h : Cl w g v) (b : Below B w w') (hg : g < B) : Cl w' g v := by
  refine ⟨?_, ?_, Nat.lt_of_lt_of_le h.2.2 b.size⟩
  · rw [b.cell (p := ⟨g, 0, none⟩) hg]; exact h.1
  · rw [b.frozen (p := ⟨g, 0, none⟩) hg]; exact h.2.1

set_option maxHeartbeats 1600000 in
theorem ReadEngine_any (n : Nat) (A : Option Addr) (c : Nat) (cs : List ByteArray) (w : World) (hn : cs.length = n) (h : SS w A cs) (hs : Short cs) :
    Calls Try.prog 32 #[.agg #[.slice A n c]] w fun e w' => RetO 3 w.heap.size w (readF cs) e w' := by
  obtain ⟨i0, hi, hz0, hz1, hz2⟩ := info_parts infoI
  have Hh := hd h
  have Hs := hd hs
  have Hn := hd hn
  have Box := hd (Cl.new w (.slice A n c) 31)
  have Bel := hd ((Below.refl w.heap.size w).alloc (Nat.le_refl _) (.cells #[.slice A n c] 31))
  clear h hs hn
  cases hv : engV cs
  · have Hf := hd (readF_none hv)
    have Hv := hd hv
    clear hv
    go_enter Try.func32, Try.ntmps32
    go_wp2_with fail
    refine (EngineValid_b _ A c cs false _ Hn.out (Hh.out.alloc _) Hs.out Hv.out).mono ?_
    rintro e w1 ⟨rfl, b1⟩
    have Bel2 := hd (Bel.out.trans (b1.mono (by simp)))
    clear b1
    go_wp2
    go_ret2
    exact RetO.none_ Hf.out Bel2.out
  · have Hf := hd (readF_some hv)
    obtain ⟨he, hW1, hW12, hn1, hn7⟩ := engV_vals hv
    obtain ⟨W, hW⟩ : ∃ W, W = hsz cs := ⟨_, rfl⟩
    obtain ⟨vs, hvs⟩ : ∃ vs, vs = cvs cs := ⟨_, rfl⟩
    rw [← hW, ← hvs] at he Hf
    rw [← hW] at hW1 hW12
    rw [← hvs] at hn1 hn7
    have Hl : Hid (vs.length = n) := hd (by rw [hvs, ← Hn.out]; simp [cvs])
    rw [Hl.out] at hn1 hn7
    obtain ⟨us, Hus⟩ : ∃ us, Hid (vs.map (sgn W) = us) := ⟨_, hd rfl⟩
    have Hul : Hid (us.length = n) := hd (by rw [← Hus.out, List.length_map, Hl.out])
    have He := hd he
    have Hv := hd hv
    clear he hv hW hvs
    rw [Hus.out] at Hf
    go_enter Try.func32, Try.ntmps32
    go_wp2_with fail
    refine (EngineValid_b _ A c cs true _ Hn.out (Hh.out.alloc _) Hs.out Hv.out).mono ?_
    rintro e w1 ⟨rfl, b1⟩
    have Bel2 := hd (Bel.out.trans (b1.mono (by simp)))
    have Box := hd (Box.out.below b1)
    have S1 : Hid (SS w1 A (eng W vs)) := hd (by rw [← He.out]; exact Hh.out.below Bel2.out)
    obtain ⟨c1, f1, -⟩ := Box.out
    have hsz : w.heap.size ≤ w1.heap.size := Bel2.out.size
    clear b1
    go_wp2_with (at_make; refine wpList_make_full _ rfl _ _ 22 rfl w1.heap.size 3 i0 (.int .i64 0) 1 Try.underlying22 hi hz0 hz1 .i64 .i64 _ _ n rfl rfl rfl rfl (by rw [hz2]; omega) (by unfold maxLen; omega) (Nat.le_refl _) ?_; intro w2 hown hgrow; have Hb2 := hd ((Below.refl w1.heap.size w1).grown hgrow (Nat.le_refl _) (by simp)); have Box2 := hd (Box.out.below Hb2.out); have How := hd (OW.made hown (by omega)); clear c1 f1 hown hgrow; obtain ⟨c1, f1, -⟩ := Box2.out)
    have Bel3 := hd (Bel2.out.trans (Hb2.out.mono hsz))
    go_loopw [17] (fun i wr => ∃ (k : Nat) (xs : List Int), k ≤ n ∧ i = .int .i64 k ∧ xs.take k = us.take k ∧ OW 3 w1.heap.size wr w1.heap.size n xs ∧ Below w.heap.size w wr)
      (fun i _ => n - (intOf i).toNat)
    case atStart => exact ⟨0, List.replicate n 0, by omega, rfl, rfl, How.out, Bel3.out⟩
    case round =>
      clear How Bel3 c1 f1 Hb2
      obtain ⟨k, xs, hk, rfl, hxt, how, hbel⟩ := hrel
      have Hxt := hd hxt
      clear hxt
      by_cases hlt : k < n
      · have hl := Hl.out
        obtain ⟨v, Hv_⟩ : ∃ v, Hid (vs[k]? = some v) := ⟨vs[k], hd (List.getElem?_eq_getElem (by omega))⟩
        have Hux : Hid (us[k]? = some (sgn W v)) := hd (by rw [← Hus.out, List.getElem?_map, Hv_.out]; rfl)
        have HS : Hid (SS wr A (eng W vs)) := hd (by rw [← He.out]; exact Hh.out.below hbel)
        obtain ⟨s1, b, off, hs1, rfl, hb, hc1⟩ := HS.out.at_ (k := k) (by rw [eng_length, hl]; omega)
        obtain rfl : s1 = showC W v := by rw [eng_at Hv_.out] at hs1; injection hs1 with hs1; exact hs1.symm
        obtain ⟨o, ho, hco⟩ := how.cell hlt
        have hfo := how.frozen k
        clear ho hs1 hl
        go_wp2_with (go_at_call 93; refine (signed_c W v _ hW1 hW12).mono ?_; rintro e w' ⟨rfl, rfl⟩)
        go_roundw
        case rel => exact ⟨k + 1, xs.set k (sgn W v), by omega, by go_num, take_set_succ (by have := how.1; omega) Hxt.out Hux.out, how.set k _, hbel.setCell (show w.heap.size ≤ w1.heap.size from hsz) _⟩
        case measure => simp [intOf]; omega
      · obtain rfl : k = n := by omega
        have hxs : xs = us := by
          have h1 := Hxt.out
          rw [List.take_of_length_le (by have := how.1; omega), List.take_of_length_le (by rw [Hul.out]; omega)] at h1
          exact h1
        subst hxs
        have Ho := hd how.own
        have hul := Hul.out
        subst hul
        go_wp2_with (go_at_call 94; refine (checked_own _ _ _ _ _ _ Ho.out).mono ?_; rintro e w3 ⟨A3, c3, rfl, own3, bel4⟩)
        go_ret2
        rw [Hf.out]
        exact ⟨A3, c3, rfl, own3.low hsz, hbel.trans (bel4.mono hsz)⟩

set_option maxHeartbeats 1600000 in
theorem sReadEngine_any (n : Nat) (A : Option Addr) (c : Nat) (cs : List ByteArray) (w : World) (hn : cs.length = n) (h : SS w A cs) (hs : Short cs) :
    Calls Try.prog 31 #[.agg #[.slice A n c]] w fun e w' => RetO 3 w.heap.size w (readF cs) e w' := by
  obtain ⟨i0, hi, hz0, hz1, hz2⟩ := info_parts infoI
  have Hh := hd h
  have Hs := hd hs
  have Hn := hd hn
  have Box := hd (Cl.new w (.slice A n c) 31)
  have Bel := hd ((Below.refl w.heap.size w).alloc (Nat.le_refl _) (.cells #[.slice A n c] 31))
  have hsz0 : (w.alloc (.cells #[.slice A n c] 31)).heap.size = w.heap.size + 1 := by simp
  have Own0 := hd ((OwnI.lit0 3 (w.alloc (.cells #[.slice A n c] 31))).low (B' := w.heap.size + 1) (by simp))
  rw [hsz0] at Own0
  have Box := hd (Box.out.alloc (.cells #[] 3))
  have Bel := hd (Bel.out.alloc (by simp) (.cells #[] 3))
  clear h hs hn hsz0
  cases hv : engV cs
  · have Hf := hd (readF_none hv)
    have Hv := hd hv
    clear hv
    go_enter Try.func31, Try.ntmps31
    go_wp2_with fail
    refine (sEngineValid_b _ A c cs false _ Hn.out (Hh.out.below Bel.out) Hs.out Hv.out).mono ?_
    rintro e w1 ⟨rfl, b1⟩
    have Own1 := hd (Own0.out.below b1)
    have Bel2 := hd (Bel.out.trans (b1.mono (by simp; omega)))
    clear b1
    go_wp2
    go_ret2
    rw [Hf.out]
    exact RetIB.own (zs := []) (Own1.out.low (B' := w.heap.size) (by omega)) rfl rfl Bel2.out
  · have Hf := hd (readF_some hv)
    obtain ⟨he, hW1, hW12, hn1, hn7⟩ := engV_vals hv
    obtain ⟨W, hW⟩ : ∃ W, W = hsz cs := ⟨_, rfl⟩
    obtain ⟨vs, hvs⟩ : ∃ vs, vs = cvs cs := ⟨_, rfl⟩
    rw [← hW, ← hvs] at he Hf
    rw [← hW] at hW1 hW12
    rw [← hvs] at hn1 hn7
    have Hl : Hid (vs.length = n) := hd (by rw [hvs, ← Hn.out]; simp [cvs])
    rw [Hl.out] at hn1 hn7
    obtain ⟨us, Hus⟩ : ∃ us, Hid (vs.map (sgn W) = us) := ⟨_, hd rfl⟩
    have Hul : Hid (us.length = n) := hd (by rw [← Hus.out, List.length_map, Hl.out])
    have He := hd he
    have Hv := hd hv
    clear he hv hW hvs
    rw [Hus.out] at Hf
    go_enter Try.func31, Try.ntmps31
    go_wp2_with fail
    refine (sEngineValid_b _ A c cs true _ Hn.out (Hh.out.below Bel.out) Hs.out Hv.out).mono ?_
    rintro e w1 ⟨rfl, b1⟩
    have Own1 := hd (Own0.out.below b1)
    have Bel2 := hd (Bel.out.trans (b1.mono (by simp; omega)))
    have Box2 := hd (Box.out.below b1)
    have hsz1 : w.heap.size + 1 ≤ w1.heap.size := Nat.lt_of_lt_of_le (Nat.lt_succ_self _) Box2.out.2.2
    clear b1 Box Own0
    obtain ⟨c1, f1, -⟩ := Box2.out
    go_wp2
    go_loopw [4, 5] (fun r i wr => ∃ (k : Nat) (A' : Option Addr) (c' : Nat), k ≤ n ∧ i = .int .i64 k ∧ r = .slice A' k c' ∧ OwnI 3 (w.heap.size + 1) wr A' c' (us.take k) ∧ Below w.heap.size w wr ∧ Cl wr w.heap.size (.slice A n c))
      (fun _ i _ => n - (intOf i).toNat)
    case atStart => exact ⟨0, _, _, by omega, rfl, rfl, Own1.out, Bel2.out, Box2.out⟩
    case round =>
      clear Own1 Bel2 Box2 c1 f1
      obtain ⟨k, A', c', hk, rfl, rfl, hown, hbel, hbox⟩ := hrel
      have Hown := hd hown
      have Hbox := hd hbox
      clear hown hbox
      obtain ⟨c1, f1, hsz2⟩ := Hbox.out
      by_cases hlt : k < n
      · have hl := Hl.out
        obtain ⟨v, Hv_⟩ : ∃ v, Hid (vs[k]? = some v) := ⟨vs[k], hd (List.getElem?_eq_getElem (by omega))⟩
        have Hux : Hid (us[k]? = some (sgn W v)) := hd (by rw [← Hus.out, List.getElem?_map, Hv_.out]; rfl)
        have HS : Hid (us.take (k + 1) = us.take k ++ [sgn W v]) := hd (by
          obtain ⟨h1, h2⟩ := List.getElem?_eq_some_iff.1 Hux.out
          rw [List.take_succ_eq_append_getElem h1, h2])
        have Htk : Hid ((us.take k).length = k) := hd (by rw [List.length_take, Hul.out]; omega)
        have HSS : Hid (SS wr A (eng W vs)) := hd (by rw [← He.out]; exact Hh.out.below hbel)
        obtain ⟨s1, b, off, hs1, rfl, hb, hc1⟩ := HSS.out.at_ (k := k) (by rw [eng_length, hl]; omega)
        obtain rfl : s1 = showC W v := by rw [eng_at Hv_.out] at hs1; injection hs1 with hs1; exact hs1.symm
        have hsz : w.heap.size ≤ wr.heap.size := hbel.size
        clear hs1 hl
        go_wp2_with (first
          | (go_at_call 91; refine (l1Signed_c W v _ hW1 hW12).mono ?_; rintro e w' ⟨rfl, rfl⟩)
          | (at_builtin; refine wpList_app1 rfl _ _ 22 3 rfl (w.heap.size + 1) i0 Try.underlying22 hi hz0 hz1 hz2 k A' c' _ wr.heap.size (sgn W v) rfl rfl Htk.out (new_cell _ _ _) (Hown.out.alloc _) (by omega) (by simp; omega) ?_; intro A2 c2 w2 hown2 hbel2 _))
        have Hown2 := hd hown2
        have Hbel2 := hd ((hbel.alloc hsz _).trans (hbel2.mono (by omega)))
        have Hbox2 := hd ((Hbox.out.alloc (.cells #[.int .i64 (sgn W v)] 3)).lowB hbel2 (by omega))
        clear hown2 hbel2 c1 f1
        go_wp2
        go_roundw
        case rel => exact ⟨k + 1, A2, c2, by omega, by go_num, rfl, by rw [HS.out]; exact Hown2.out, Hbel2.out, Hbox2.out⟩
        case measure => simp [intOf]; omega
      · obtain rfl : k = n := by omega
        have Ho : Hid (OwnI 3 (w.heap.size + 1) wr A' c' us) := hd (by
          have := Hown.out
          rwa [List.take_of_length_le (by rw [Hul.out]; omega)] at this)
        go_wp2_with fail
        refine (sPolyValid_k _ A' c' us _ Hul.out Ho.out.si).mono ?_
        rintro e w' ⟨rfl, rfl⟩
        cases hv2 : validP us
        · have Hg : Hid (readF cs = none) := hd (by rw [Hf.out, chk, hv2]; rfl)
          go_wp2
          go_ret2
          exact RetO.lit0 Hg.out hbel
        · have Hg : Hid (readF cs = some us) := hd (by rw [Hf.out, chk, hv2]; rfl)
          go_wp2
          go_ret2
          exact RetO.some_ Hg.out (Ho.out.low (by omega)) Hul.out.symm hbel

theorem readF_length {cs : List ByteArray} {z : List Int} (h : (readF cs).getD [] = z) : z.length ≤ 1048576 := by
  subst h
  cases hv : engV cs
  · rw [readF_none hv]; simp
  · rw [readF_some hv]
    unfold chk
    split
    · have := (engV_vals hv).2.2.2.2
      simp only [Option.getD_some, List.length_map]
      omega
    · simp
theorem sReadEngine_z (A : Option Addr) (c n : Nat) (cs : List ByteArray) (z : List Int) (ok : Bool) (w : World) (hn : cs.length = n) (h : SS w A cs) (hs : Short cs) (hz : (readF cs).getD [] = z ∧ (readF cs).isSome = ok) :
    Calls Try.prog 31 #[.agg #[.slice A n c]] w fun e w' => RetNB 3 w.heap.size w z ok e w' := by
  obtain ⟨rfl, rfl⟩ := hz
  exact sReadEngine_any n A c cs w hn h hs
theorem ReadEngine_z (A : Option Addr) (c n : Nat) (cs : List ByteArray) (z : List Int) (ok : Bool) (w : World) (hn : cs.length = n) (h : SS w A cs) (hs : Short cs) (hz : (readF cs).getD [] = z ∧ (readF cs).isSome = ok) :
    Calls Try.prog 32 #[.agg #[.slice A n c]] w fun e w' => RetNB 3 w.heap.size w z ok e w' := by
  obtain ⟨rfl, rfl⟩ := hz
  exact ReadEngine_any n A c cs w hn h hs

end Go.Proofs.Ytcalheieakppmaa
