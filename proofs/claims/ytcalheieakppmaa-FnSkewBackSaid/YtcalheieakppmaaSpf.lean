/- The contracts of the reference's l3Ahead and UnskewEngine, for whatever comes in. -/
import Derived.Test.YtcalheieakppmaaSpeZ
import Derived.Deep.RegionHeld3
namespace Go.Proofs.Ytcalheieakppmaa
open Go.RowKit
set_option maxRecDepth 4000

theorem sumB_nil (m : Nat) : sumB [] m = 0 := by rw [sumB_eq]; rfl

set_option maxHeartbeats 1600000 in
theorem l3Ahead_any (W : Nat) (x : Int) (H : List Int) (m : Nat) (mI : Int) (A : Option Addr) (c n : Nat) (w : World) (hmI : mI = m) (h : SS w A (eng W H)) (h1 : 1 ≤ W) (h12 : W ≤ 12) (hn : H.length = n) (hn7 : n ≤ 7) (hm : m ≤ 900) :
    Calls Try.prog 103 #[.string (showC W x), .slice A n c, .int .i64 mI] w fun e w' => RetS w (showC W (x + sumB H m)) e w' := by
  subst hmI
  by_cases hn1 : 1 ≤ n
  case neg =>
    obtain rfl : n = 0 := by omega
    have hH : H = [] := List.eq_nil_of_length_eq_zero hn
    have Hf : Hid (x + sumB H m = x) := hd (by subst hH; rw [sumB_nil]; omega)
    clear hH hn h
    go_enter Try.func103, Try.ntmps103
    go_wp2
    go_ret
    rw [Hf.out]
    exact ⟨rfl, Below.refl _ _⟩
  have Hh := hd h
  have Hn := hd hn
  have Box := hd (Cl.new w (.slice A n c) 31)
  have Bel := hd ((Below.refl w.heap.size w).alloc (Nat.le_refl _) (.cells #[.slice A n c] 31))
  have hn0 : ((n : Int) == 0) = false := by simp; omega
  clear h hn
  go_enter Try.func103, Try.ntmps103
  go_wp2
  go_loopw [0, 8] (fun s i wr => ∃ k : Nat, k ≤ m ∧ i = .int .i64 ((k : Int) + 1) ∧ s = .string (showC W (x + sumB H k)) ∧ Below w.heap.size w wr ∧ Cl wr w.heap.size (.slice A n c))
    (fun _ i _ => m + 1 - (intOf i).toNat)
  case atStart => exact ⟨0, by omega, by go_num, by simp [sumB], Bel.out, Box.out⟩
  case round =>
    clear Bel Box
    obtain ⟨k, hk, rfl, rfl, bel, box⟩ := hrel
    have Bel := hd bel
    have Box := hd box
    clear bel box
    obtain ⟨c1, f1, -⟩ := Box.out
    by_cases hlt : k < m
    · have hn := Hn.out
      obtain ⟨y, Hy⟩ : ∃ y, Hid (val H (-((k + 1 : Nat) : Int)) = y) := ⟨_, hd rfl⟩
      have Hmx : Hid ((eng W (manyV H (-((k + 1 : Nat) : Int))))[0]? = some (showC W y)) := hd (by rw [← Hy.out]; exact eng_at (by rw [manyV_at _ (by omega), List.drop_zero]))
      have Hml : Hid (0 < (eng W (manyV H (-((k + 1 : Nat) : Int)))).length) := hd (by rw [eng_length, manyV_length]; omega)
      have Hs : Hid (x + sumB H k + y = x + sumB H (k + 1)) := hd (by rw [sumB, Hy.out]; omega)
      clear hn
      have HS := hd (Hh.out.below Bel.out)
      have hfld := run_field0
      go_wp2_with fail
      refine (l3Many_s W H (-((k + 1 : Nat) : Int)) _ A c n wr (by omega) HS.out h1 h12 Hn.out hn1 hn7 (by omega) (by omega)).mono ?_
      rintro e w2 ⟨A2, c2, rfl, own2, b2⟩
      have Bel2 := hd (Bel.out.trans (b2.mono Bel.out.size))
      have Box2 := hd (Box.out.below b2)
      obtain ⟨g2, o2, ho2, rfl, hc2, hf2⟩ := own2.at_ (k := 0) Hml.out
      obtain rfl : o2 = showC W y := Option.some.inj (ho2.symm.trans Hmx.out)
      clear b2 own2 ho2 c1 f1
      obtain ⟨c1, f1, -⟩ := Box2.out
      go_wp2_with fail
      refine (l3Plus_c W (x + sumB H k) y _ h1 h12).mono ?_
      rintro e w3 ⟨rfl, b3⟩
      rw [Hs.out]
      have Bel3 := hd (Bel2.out.trans (b3.mono Bel2.out.size))
      have Box3 := hd (Box2.out.below b3)
      clear b3
      go_wp2
      go_roundw
      case rel => exact ⟨k + 1, by omega, by go_num, rfl, Bel3.out, Box3.out⟩
      case measure => simp [intOf] <;> omega
    · obtain rfl : k = m := by omega
      go_wp2
      go_ret
      exact ⟨rfl, Bel.out⟩

set_option maxHeartbeats 40000000 in
theorem sUnskewEngine_any (A : Option Addr) (c : Nat) (cs : List ByteArray) (w : World) (h : SS w A cs) (hs : Short cs) :
    Calls Try.prog 41 #[.agg #[.slice A cs.length c]] w fun e w' => RetEO 9 w.heap.size w (turnF unskV cs) e w' := by
  have Hh := hd h
  have Hs := hd hs
  have F0 := hd (Fr.start w (.slice A cs.length c) (.slice none 0 0) 31 31)
  clear h hs
  cases hv : engV cs
  · have Hf : Hid (turnF unskV cs = none) := hd (turnF_none hv)
    have Hv := hd hv
    clear hv
    go_enter Try.func41, Try.ntmps41
    go_wp2_with fail
    refine (sEngineValid_b _ A c cs false _ rfl ((Hh.out.alloc _).alloc _) Hs.out Hv.out).mono ?_
    rintro e w1 ⟨rfl, b1⟩
    have F1 := hd (F0.out.below b1)
    obtain ⟨⟨c1, f1⟩, ⟨c2, f2⟩, -, -⟩ := F1.out
    clear b1
    go_wp2
    exact bodyPost_ret (v := .tuple #[.agg #[.slice none 0 0], .bool false]) (by simp [results, Try.results41, c2, go_sem]) rfl (RetEO.none_ Hf.out (F1.out.done _))
  obtain ⟨n, Hn⟩ : ∃ n, Hid (cs.length = n) := ⟨_, hd rfl⟩
  have Hf := hd (turnF_some (f := unskV) hv)
  obtain ⟨he, hW1, hW12, hn1, hn7⟩ := engV_vals hv
  have Hl : Hid ((cvs cs).length = n) := hd (by simp [cvs, Hn.out])
  obtain ⟨W, hW⟩ : ∃ W, W = hsz cs := ⟨_, rfl⟩
  obtain ⟨vs, hvs⟩ : ∃ vs, vs = cvs cs := ⟨_, rfl⟩
  rw [← hW, ← hvs] at he Hf
  rw [← hW] at hW1 hW12
  rw [← hvs] at hn1 hn7 Hl
  have He := hd he
  have Hv := hd hv
  rw [Hl.out] at hn1 hn7
  clear he hv hW hvs
  rw [Hn.out] at F0
  rw [Hn.out]
  obtain ⟨us, Hus⟩ : ∃ us, Hid (unskV vs = us) := ⟨_, hd rfl⟩
  rw [Hus.out] at Hf
  have Hul : Hid (us.length = vs.length) := hd (by rw [← Hus.out, unskV_length])
  have Hel : Hid ((eng W vs).length = n) := hd (by rw [eng_length, Hl.out])
  go_enter Try.func41, Try.ntmps41
  go_wp2_with fail
  refine (sEngineValid_b _ A c cs true _ Hn.out ((Hh.out.alloc _).alloc _) Hs.out Hv.out).mono ?_
  rintro e w0 ⟨rfl, b0⟩
  have F1 := hd (F0.out.below b0)
  have S1 : Hid (SS w0 A (eng W vs)) := hd (by rw [← He.out]; exact (Hh.out.below F1.out.2.2.2))
  have hsz0 : w.heap.size + 2 ≤ w0.heap.size := F1.out.2.2.1
  obtain ⟨⟨c1, f1⟩, ⟨c2, f2⟩, -, -⟩ := F1.out
  clear b0
  go_wp2_with fail
  refine (l3Copy_any A c n (eng W vs) _ S1.out Hel.out hn1 (by omega)).mono ?_
  rintro e w1 ⟨A1, cap1, rfl, own1, b1⟩
  obtain ⟨g, hA1, hg1, hg2⟩ := own1.addr (by rw [Hel.out]; omega)
  subst hA1
  have hg3 : w.heap.size + 2 ≤ g := by omega
  have F2 := hd (F1.out.below b1)
  have Own1 := hd (own1.low (B' := w.heap.size + 2) hsz0)
  rw [Hel.out]
  clear own1 b1 hg1 c1 f1 c2 f2
  have F3 := hd (Fr3.start (v3 := .slice (some ⟨g, 0, none⟩) n cap1) F2.out 31)
  have Own1 := hd (Own1.out.alloc (.cells #[.slice (some ⟨g, 0, none⟩) n cap1] 31))
  have hgo : g ≠ w1.heap.size := by omega
  have Hcap : n ≤ cap1 := by have := Own1.out.cap; rwa [Hel.out] at this
  obtain ⟨⟨⟨z1, z2⟩, ⟨z3, z4⟩, -, -⟩, -, -, -⟩ := F3.out
  go_wp2
  go_loopw [5] (fun i wr => ∃ k : Nat, k ≤ n ∧ i = .int .i64 ((k : Int) - 1) ∧ Fr3 w wr (.slice A n c) (.slice none 0 0) w1.heap.size (.slice (some ⟨g, 0, none⟩) n cap1) ∧ OwnS 9 (w.heap.size + 2) wr (some ⟨g, 0, none⟩) cap1 (eng W (mixV vs us k)))
    (fun i _ => (intOf i + 1).toNat)
  case atStart => exact ⟨n, by omega, by go_num, F3.out, by rw [show mixV vs us n = vs by rw [← Hl.out]; exact mixV_full Hul.out.symm (by rw [Hul.out]; exact Nat.le_refl _)]; exact Own1.out⟩
  case round =>
    clear F3 Own1 F2 z1 z2 z3 z4
    obtain ⟨k, hk, rfl, fr, own⟩ := hrel
    have Fr_ := hd fr
    have Own := hd own
    clear fr own
    obtain ⟨⟨⟨q1, q2⟩, ⟨q3, q4⟩, q5, Bel⟩, ⟨q6, q7⟩, q8, q9⟩ := Fr_.out
    by_cases hk0 : 0 < k
    · obtain ⟨l, rfl⟩ : ∃ l, k = l + 1 := ⟨k - 1, by omega⟩
      have ei : ((l + 1 : Nat) : Int) - 1 = (l : Int) := by omega
      rw [ei]
      have hn := Hl.out
      obtain ⟨v, Hv_⟩ : ∃ v, Hid (vs[l]? = some v) := ⟨vs[l], hd (List.getElem?_eq_getElem (by omega))⟩
      obtain ⟨H, HH⟩ : ∃ H, Hid (us.drop (l + 1) = H) := ⟨_, hd rfl⟩
      have HHl : Hid (H.length = n - (l + 1)) := hd (by rw [← HH.out, List.length_drop, Hul.out, hn])
      obtain ⟨x, Hx⟩ : ∃ x, Hid (v + sumB H (l / 2) = x) := ⟨_, hd rfl⟩
      have Hux : Hid (us[l]? = some x) := hd (by
        have h1 := unskV_at Hv_.out
        rw [Hus.out, HH.out] at h1
        rw [h1, ← Hx.out, sumB_eq]
        congr 1)
      obtain ⟨AH, hAH⟩ : ∃ AH, (if cap1 = l + 1 then some (⟨g, 0, none⟩ : Addr) else some ⟨g, l + 1, none⟩) = AH := ⟨_, rfl⟩
      have Hdr : Hid (SS wr AH (eng W H)) := hd (by
        rw [← hAH]
        split
        · have : H = [] := List.eq_nil_of_length_eq_zero (by rw [HHl.out]; omega)
          rw [this]
          exact SR.nil_ _ _
        · have := Own.out.sg.drop rfl (l + 1)
          rwa [eng_drop, mixV_drop_next (by omega), HH.out, Nat.zero_add] at this)
      obtain ⟨s1, b, off, hs1, rfl, hb, hc1⟩ := (Hh.out.below Bel).at_ (k := l) (by rw [Hn.out]; omega)
      obtain rfl : s1 = showC W v := by
        have h2 := He.out
        rw [h2, eng_at Hv_.out] at hs1; injection hs1 with hs1; exact hs1.symm
      have hgA : g ≠ w.heap.size := by omega
      have hgb : g ≠ b := by
        obtain ⟨b9, off9, e9, h9⟩ := Hh.out.nonempty (by rw [Hn.out]; omega)
        simp only [Option.some.injEq, Addr.mk.injEq, and_true] at e9
        omega
      clear hn ei hs1
      have Hlx : Hid (l < (eng W (mixV vs us (l + 1))).length) := hd (by rw [eng_length, mixV_length Hul.out.symm, Hul.out, Hl.out]; omega)
      have e1 : IntKind.i64.wrap ((l : Int) + 1) = (l : Int) + 1 := IntWalk.i64_in _ (by omega)
      have e2 : ((l : Int) + 1).toNat = l + 1 := by omega
      have e3 : (0 : Int) ≤ (l : Int) + 1 := by omega
      have e4 : (l : Int) + 1 ≤ n := by omega
      have e5 : l < n := by omega
      have e6 : IntKind.i64.wrap ((l : Int) / 2) = (l : Int) / 2 := IntWalk.i64_in _ (by omega)
      have e7 : (l : Int) + 1 ≤ cap1 := by omega
      have e8 : (n : Int) ≤ cap1 := by omega
      go_wp2
      go_region_held3 (fun w' => w'.cell? ⟨w.heap.size, 0, none⟩ = some (.slice (some ⟨b, off, none⟩) n c) ∧ w'.cell? ⟨w1.heap.size, 0, none⟩ = some (.slice (some ⟨g, 0, none⟩) n cap1) ∧ w'.cell? ⟨b, off + l, none⟩ = some (.string (showC W v))) (first | exact ⟨q1, q6, hc1⟩ | exact ⟨p1, p6, hc3⟩ | exact ⟨(World.cell?_setCell_far _ _ _ hgA).trans p1, (World.cell?_setCell_far _ _ _ hgo).trans p6, (World.cell?_setCell_far _ _ _ hgb).trans hc3⟩ | go_keep)
        (first | (go_simp; go_at_call 103; refine (l3Ahead_any W v H (l / 2) _ AH (cap1 - (l + 1)) (n - (l + 1)) wr.drew (by first | rfl | omega) Hdr.out hW1 hW12 HHl.out (by omega) (by omega)).mono ?_; rintro e w2 ⟨rfl, b2⟩; have Own2 := hd (Own.out.drew.below b2); have Fr2 := hd (Fr_.out.drew.below b2); have hc3 : w2.cell? ⟨b, off + l, none⟩ = some (.string (showC W v)) := (b2.cell (p := ⟨b, off + l, none⟩) hb).trans hc1; obtain ⟨g', o, ho, hg', hco, hfo⟩ := Own2.out.at_ (k := l) Hlx.out; simp only [Option.some.injEq, Addr.mk.injEq, and_true] at hg'; subst hg'; obtain ⟨⟨⟨p1, p2⟩, ⟨p3, p4⟩, -, -⟩, ⟨p6, p7⟩, -, -⟩ := Fr2.out; clear b2 ho))
      all_goals
        clear hgA hgb hc3 hAH e1 e2 e3 e4 e5 e6 e7 e8 q1 q2 q3 q4 q5 q6 q7 q8 q9 p1 p2 p3 p4 p6 p7
        rw [Hx.out]
        have Own3 := hd (Own2.out.set l (showC W x))
        have Fr3_ := hd (Fr2.out.set (k := l) hg3 hgo (.string (showC W x)))
        have Hnx : Hid ((eng W (mixV vs us (l + 1))).set l (showC W x) = eng W (mixV vs us l)) := hd (by
          rw [eng_set, mixV_back Hul.out Hux.out])
        go_wp2
        go_roundw
        case rel => exact ⟨l, by omega, by go_num, Fr3_.out, by rw [← Hnx.out]; exact Own3.out⟩
        case measure => simp [intOf] <;> omega
    · obtain rfl : k = 0 := by omega
      have Hfu : Hid (mixV vs us 0 = us) := hd (by simp [mixV])
      have Hl2 : Hid ((eng W us).length = n) := hd (by rw [eng_length, Hul.out, Hl.out])
      rw [Hfu.out] at Own
      have Ow2 := hd ((Own.out.keep_lo (grown_set wr ⟨w.heap.size + 1, 0, none⟩ (.slice (some ⟨g, 0, none⟩) n cap1)) (fun r hr => by simp at hr; omega)).low (show w.heap.size ≤ w.heap.size + 2 by omega))
      go_wp2
      refine bodyPost_ret (v := .tuple #[.agg #[.slice (some ⟨g, 0, none⟩) n cap1], .bool true]) ?_ rfl (RetEO.some_ Hf.out Ow2.out Hl2.out.symm (Fr_.out.1.done _))
      simp [results, Try.results41, q3, go_sem]

end Go.Proofs.Ytcalheieakppmaa
