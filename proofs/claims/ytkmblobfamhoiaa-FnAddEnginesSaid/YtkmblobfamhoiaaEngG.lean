/- The contracts of both sides' AddEngines, for whatever comes in. -/
import Derived.Test.YtkmblobfamhoiaaGrE
import Derived.Test.YtkmblobfamhoiaaGrG
import Derived.Deep.RegionLaw
namespace Go.Proofs.Ytkmblobfamhoiaa
open Go.RowKit
set_option maxRecDepth 4000

theorem AddColumns_no (a b : ByteArray) (w : World) (ha : a.size ≤ 17592186044416) (hb : b.size ≤ 17592186044416) (h : alikeB a b = false) :
    Calls Try.prog 43 #[.string a, .string b] w fun e w' => e = .returned (.tuple #[.string ByteArray.empty, .bool false]) ∧ w = w' := by
  go_enter Try.func43, Try.ntmps43
  go_wp2_with fail
  refine (alike_b a b false _ ha hb h).mono ?_
  rintro e w' ⟨rfl, rfl⟩
  go_wp2
  go_ret2
  exact ⟨rfl, rfl⟩

theorem short_len {cs : List ByteArray} (h : Short cs) {k : Nat} {s : ByteArray} (hk : cs[k]? = some s) : s.size ≤ 17592186044416 := by
  have := h s (List.mem_of_getElem? hk); omega

set_option maxHeartbeats 3200000 in
theorem AddEngines_any (A A' : Option Addr) (c c' n m : Nat) (cs ds : List ByteArray) (w : World) (hn : cs.length = n) (hm : ds.length = m) (h : SS w A cs) (h' : SS w A' ds) (hs : Short cs) (hs' : Short ds) :
    Calls Try.prog 32 #[.agg #[.slice A n c], .agg #[.slice A' m c']] w fun e w' => RetEO 9 w.heap.size w (addF cs ds) e w' := by
  obtain ⟨i0, hi, hz0, hz1, hz2⟩ := info_parts infoS
  have Hh := hd h
  have Hh' := hd h'
  have Hs := hd hs
  have Hs' := hd hs'
  have Hn := hd hn
  have Hm := hd hm
  have C0 := hd (Cs.three w (.slice A n c) (.slice A' m c') (.slice none 0 0) 36 36 36)
  clear h h' hs hs' hn hm
  cases hv : engV cs
  · have Hf : Hid (addF cs ds = none) := hd (addF_none (by simp [hv]))
    have Hv := hd hv
    clear hv
    go_enter Try.func32, Try.ntmps32
    go_wp2_with fail
    refine (EngineValid_b _ A c cs false _ Hn.out (Hh.out.below C0.out.1) Hs.out Hv.out).mono ?_
    rintro e w1 ⟨rfl, b1⟩
    have C1 := hd (C0.out.below b1)
    obtain ⟨⟨c1, f1, -⟩, ⟨c2, f2, -⟩, ⟨c3, f3, -⟩⟩ := C1.out.at3
    clear b1
    go_wp2
    exact bodyPost_ret (v := .tuple #[.agg #[.slice none 0 0], .bool false]) (by simp [results, Try.results32, c1, go_sem]) rfl (RetEO.none_ Hf.out (C1.out.done (by omega) _))
  have Hv := hd hv
  cases hv' : engV ds
  · have Hf : Hid (addF cs ds = none) := hd (addF_none (by simp [hv']))
    have Hv' := hd hv'
    clear hv hv'
    go_enter Try.func32, Try.ntmps32
    go_wp2_with fail
    refine (EngineValid_b _ A c cs true _ Hn.out (Hh.out.below C0.out.1) Hs.out Hv.out).mono ?_
    rintro e w1 ⟨rfl, b1⟩
    have C1 := hd (C0.out.below b1)
    obtain ⟨⟨c1, f1, -⟩, ⟨c2, f2, -⟩, ⟨c3, f3, -⟩⟩ := C1.out.at3
    clear b1
    go_wp2_with fail
    refine (EngineValid_b _ A' c' ds false _ Hm.out (Hh'.out.below C1.out.1) Hs'.out Hv'.out).mono ?_
    rintro e w2 ⟨rfl, b2⟩
    clear c1 f1 c2 f2 c3 f3
    have C2 := hd (C1.out.below b2)
    obtain ⟨⟨c1, f1, -⟩, ⟨c2, f2, -⟩, ⟨c3, f3, -⟩⟩ := C2.out.at3
    clear b2
    go_wp2
    exact bodyPost_ret (v := .tuple #[.agg #[.slice none 0 0], .bool false]) (by simp [results, Try.results32, c1, go_sem]) rfl (RetEO.none_ Hf.out (C2.out.done (by omega) _))
  have Hv' := hd hv'
  by_cases hnm : n = m
  case neg =>
    have Hf : Hid (addF cs ds = none) := hd (addF_none (by simp [Hn.out, Hm.out, hnm]))
    have hne : ((n : Int) != m) = true := by simp; omega
    clear hv hv' hnm
    go_enter Try.func32, Try.ntmps32
    go_wp2_with fail
    refine (EngineValid_b _ A c cs true _ Hn.out (Hh.out.below C0.out.1) Hs.out Hv.out).mono ?_
    rintro e w1 ⟨rfl, b1⟩
    have C1 := hd (C0.out.below b1)
    obtain ⟨⟨c1, f1, -⟩, ⟨c2, f2, -⟩, ⟨c3, f3, -⟩⟩ := C1.out.at3
    clear b1
    go_wp2_with fail
    refine (EngineValid_b _ A' c' ds true _ Hm.out (Hh'.out.below C1.out.1) Hs'.out Hv'.out).mono ?_
    rintro e w2 ⟨rfl, b2⟩
    clear c1 f1 c2 f2 c3 f3
    have C2 := hd (C1.out.below b2)
    obtain ⟨⟨c1, f1, -⟩, ⟨c2, f2, -⟩, ⟨c3, f3, -⟩⟩ := C2.out.at3
    clear b2
    go_wp2
    exact bodyPost_ret (v := .tuple #[.agg #[.slice none 0 0], .bool false]) (by simp [results, Try.results32, c1, go_sem]) rfl (RetEO.none_ Hf.out (C2.out.done (by omega) _))
  subst hnm
  obtain ⟨he, hW1, hW12, hn1, hn7⟩ := engV_vals hv
  obtain ⟨he', hW1', hW12', hn1', hn7'⟩ := engV_vals hv'
  have Hl : Hid ((cvs cs).length = n) := hd (by simp [cvs, Hn.out])
  have Hl' : Hid ((cvs ds).length = n) := hd (by simp [cvs, Hm.out])
  obtain ⟨W, hW⟩ : ∃ W, W = hsz cs := ⟨_, rfl⟩
  obtain ⟨vs, hvs⟩ : ∃ vs, vs = cvs cs := ⟨_, rfl⟩
  obtain ⟨W', hW'⟩ : ∃ W', W' = hsz ds := ⟨_, rfl⟩
  obtain ⟨us, hus⟩ : ∃ us, us = cvs ds := ⟨_, rfl⟩
  rw [← hW, ← hvs] at he
  rw [← hW', ← hus] at he'
  rw [← hW] at hW1 hW12
  rw [← hW'] at hW1' hW12'
  rw [← hvs] at hn1 hn7 Hl
  rw [← hus] at hn1' hn7' Hl'
  rw [Hl.out] at hn1 hn7
  have hne : ((n : Int) != n) = false := by simp
  by_cases hWW : W = W'
  case neg =>
    have Hf : Hid (addF cs ds = none) := hd (addF_none (by rw [hW, hW'] at hWW; simp [hWW]))
    obtain ⟨x, Hx⟩ : ∃ x, Hid (vs[0]? = some x) := ⟨vs[0]'(by rw [Hl.out]; omega), hd (List.getElem?_eq_getElem _)⟩
    obtain ⟨y, Hy⟩ : ∃ y, Hid (us[0]? = some y) := ⟨us[0]'(by rw [Hl'.out]; omega), hd (List.getElem?_eq_getElem _)⟩
    have Hal : Hid (alikeB (showC W x) (showC W' y) = false) := hd (by simp [alikeB, showC_size, hWW])
    have He := hd he
    have He' := hd he'
    clear hv hv' he he' hW hW' hvs hus hn1' hn7' hWW
    go_enter Try.func32, Try.ntmps32
    go_wp2_with fail
    refine (EngineValid_b _ A c cs true _ Hn.out (Hh.out.below C0.out.1) Hs.out Hv.out).mono ?_
    rintro e w1 ⟨rfl, b1⟩
    have C1 := hd (C0.out.below b1)
    obtain ⟨⟨c1, f1, -⟩, ⟨c2, f2, -⟩, ⟨c3, f3, -⟩⟩ := C1.out.at3
    clear b1
    go_wp2_with fail
    refine (EngineValid_b _ A' c' ds true _ Hm.out (Hh'.out.below C1.out.1) Hs'.out Hv'.out).mono ?_
    rintro e w2 ⟨rfl, b2⟩
    clear c1 f1 c2 f2 c3 f3
    have C2 := hd (C1.out.below b2)
    obtain ⟨⟨c1, f1, g1⟩, ⟨c2, f2, -⟩, ⟨c3, f3, -⟩⟩ := C2.out.at3
    clear b2
    go_wp2_with (at_make; refine wpList_make_full _ rfl _ _ 30 rfl w2.heap.size 9 i0 (.string ByteArray.empty) 1 Try.underlying30 hi hz0 hz1 .i64 .i64 _ _ n rfl rfl rfl rfl (by rw [hz2]; omega) (by unfold maxLen; omega) (Nat.le_refl _) ?_; intro w3 hown hgrow; have C3 := hd (C2.out.below ((Below.refl w2.heap.size w2).grown hgrow (Nat.le_refl _) (by simp))); clear c1 f1 c2 f2 c3 f3 hown hgrow; obtain ⟨⟨c1, f1, -⟩, ⟨c2, f2, -⟩, ⟨c3, f3, -⟩⟩ := C3.out.at3)
    go_loopw [34] (fun i wr => i = .int .i64 0 ∧ Cs w wr [(w.heap.size + 2, .slice none 0 0), (w.heap.size + 1, .slice A' n c'), (w.heap.size, .slice A n c)])
      (fun i _ => n - (intOf i).toNat)
    case atStart => exact ⟨rfl, C3.out⟩
    case round =>
      clear C3 c1 f1 c2 f2 c3 f3
      obtain ⟨rfl, cc⟩ := hrel
      have C4 := hd cc
      clear cc
      obtain ⟨⟨c1, f1, -⟩, ⟨c2, f2, -⟩, ⟨c3, f3, -⟩⟩ := C4.out.at3
      have HS : Hid (SS wr A (eng W vs)) := hd (by rw [← He.out]; exact Hh.out.below C4.out.1)
      have HS' : Hid (SS wr A' (eng W' us)) := hd (by rw [← He'.out]; exact Hh'.out.below C4.out.1)
      obtain ⟨s1, b, off, hs1, rfl, hb, hc1⟩ := HS.out.at_ (k := 0) (by rw [eng_length, Hl.out]; omega)
      obtain rfl : s1 = showC W x := by rw [eng_at Hx.out] at hs1; injection hs1 with hs1; exact hs1.symm
      obtain ⟨s2, b', off', hs2, rfl, hb', hc2⟩ := HS'.out.at_ (k := 0) (by rw [eng_length, Hl'.out]; omega)
      obtain rfl : s2 = showC W' y := by rw [eng_at Hy.out] at hs2; injection hs2 with hs2; exact hs2.symm
      simp only [Nat.add_zero] at hc1 hc2
      clear hs1 hs2
      have e0 : (0 : Int) < n := by omega
      go_wp2
      go_region_law ((go_simp; go_at_call 43; refine (AddColumns_no (showC W x) (showC W' y) wr.drew (by rw [showC_size]; omega) (by rw [showC_size]; omega) Hal.out).mono ?_; rintro e w4 ⟨rfl, rfl⟩))
      all_goals
        have C5 := hd C4.out.drew
        go_wp2
        exact bodyPost_ret (v := .tuple #[.agg #[.slice none 0 0], .bool false]) (by simp [results, Try.results32, c1, go_sem]) rfl (RetEO.none_ Hf.out (C5.out.done (by omega) _))
  subst hWW
  have Hf : Hid (addF cs ds = some (eng W (plusV vs us))) := hd (by rw [hW, hvs, hus]; exact addF_some hv hv' (by rw [Hn.out, Hm.out]) (hW.symm.trans hW'))
  have He := hd he
  have He' := hd he'
  obtain ⟨zs, Hzs⟩ : ∃ zs, Hid (plusV vs us = zs) := ⟨_, hd rfl⟩
  rw [Hzs.out] at Hf
  have Hzl : Hid (zs.length = n) := hd (by rw [← Hzs.out, plusV_length, Hl.out])
  clear hv hv' he he' hW hW' hvs hus hn1' hn7'
  go_enter Try.func32, Try.ntmps32
  go_wp2_with fail
  refine (EngineValid_b _ A c cs true _ Hn.out (Hh.out.below C0.out.1) Hs.out Hv.out).mono ?_
  rintro e w1 ⟨rfl, b1⟩
  have C1 := hd (C0.out.below b1)
  obtain ⟨⟨c1, f1, -⟩, ⟨c2, f2, -⟩, ⟨c3, f3, -⟩⟩ := C1.out.at3
  clear b1
  go_wp2_with fail
  refine (EngineValid_b _ A' c' ds true _ Hm.out (Hh'.out.below C1.out.1) Hs'.out Hv'.out).mono ?_
  rintro e w2 ⟨rfl, b2⟩
  clear c1 f1 c2 f2 c3 f3
  have C2 := hd (C1.out.below b2)
  obtain ⟨⟨c1, f1, g1⟩, ⟨c2, f2, -⟩, ⟨c3, f3, -⟩⟩ := C2.out.at3
  clear b2
  go_wp2_with (at_make; refine wpList_make_full _ rfl _ _ 30 rfl w2.heap.size 9 i0 (.string ByteArray.empty) 1 Try.underlying30 hi hz0 hz1 .i64 .i64 _ _ n rfl rfl rfl rfl (by rw [hz2]; omega) (by unfold maxLen; omega) (Nat.le_refl _) ?_; intro w3 hown hgrow; have Own3 : Hid (OwnS 9 (w.heap.size + 3) w3 (some ⟨w2.heap.size, 0, none⟩) n (List.replicate n ByteArray.empty)) := hd ((OwnG.made ByteArray.empty rfl hown (by omega)).low (by omega)); have C3 := hd (C2.out.below ((Below.refl w2.heap.size w2).grown hgrow (Nat.le_refl _) (by simp))); clear c1 f1 c2 f2 c3 f3 hown hgrow; obtain ⟨⟨c1, f1, -⟩, ⟨c2, f2, -⟩, ⟨c3, f3, -⟩⟩ := C3.out.at3)
  obtain ⟨g, hg⟩ : ∃ g, g = w2.heap.size := ⟨_, rfl⟩
  rw [← hg] at Own3 g1 ⊢
  go_loopw [34] (fun i wr => ∃ (k : Nat) (xs : List ByteArray), k ≤ n ∧ i = .int .i64 k ∧ xs.length = n ∧ xs.take k = (eng W zs).take k ∧ OwnS 9 (w.heap.size + 3) wr (some ⟨g, 0, none⟩) n xs ∧ Cs w wr [(w.heap.size + 2, .slice none 0 0), (w.heap.size + 1, .slice A' n c'), (w.heap.size, .slice A n c)])
    (fun i _ => n - (intOf i).toNat)
  case atStart => exact ⟨0, List.replicate n ByteArray.empty, by omega, rfl, by simp, rfl, Own3.out, C3.out⟩
  case round =>
    clear Own3 C3 c1 f1 c2 f2 c3 f3 hg
    obtain ⟨k, xs, hk, rfl, hxl, hxt, own, cc⟩ := hrel
    have Hxl := hd hxl
    have Hxt := hd hxt
    have Own := hd own
    have C4 := hd cc
    clear hxl hxt own cc
    obtain ⟨⟨c1, f1, -⟩, ⟨c2, f2, -⟩, ⟨c3, f3, -⟩⟩ := C4.out.at3
    by_cases hlt : k < n
    · obtain ⟨x, Hx⟩ : ∃ x, Hid (vs[k]? = some x) := ⟨vs[k]'(by rw [Hl.out]; omega), hd (List.getElem?_eq_getElem _)⟩
      obtain ⟨y, Hy⟩ : ∃ y, Hid (us[k]? = some y) := ⟨us[k]'(by rw [Hl'.out]; omega), hd (List.getElem?_eq_getElem _)⟩
      have Hz : Hid ((eng W zs)[k]? = some (showC W (x + y))) := hd (eng_at (by rw [← Hzs.out]; exact plusV_at Hx.out Hy.out))
      have HS : Hid (SS wr A (eng W vs)) := hd (by rw [← He.out]; exact Hh.out.below C4.out.1)
      have HS' : Hid (SS wr A' (eng W us)) := hd (by rw [← He'.out]; exact Hh'.out.below C4.out.1)
      obtain ⟨s1, b, off, hs1, rfl, hb, hc1⟩ := HS.out.at_ (k := k) (by rw [eng_length, Hl.out]; omega)
      obtain rfl : s1 = showC W x := by rw [eng_at Hx.out] at hs1; injection hs1 with hs1; exact hs1.symm
      obtain ⟨s2, b', off', hs2, rfl, hb', hc2⟩ := HS'.out.at_ (k := k) (by rw [eng_length, Hl'.out]; omega)
      obtain rfl : s2 = showC W y := by rw [eng_at Hy.out] at hs2; injection hs2 with hs2; exact hs2.symm
      clear hs1 hs2
      have e0 : (k : Int) < n := by omega
      go_wp2
      go_region_law ((go_simp; go_at_call 43; refine (AddColumns_c W x y wr.drew hW1 hW12).mono ?_; rintro e w4 ⟨rfl, b4⟩; have Own4 := hd (Own.out.drew.below b4); have C5 := hd (C4.out.drew.below b4); clear c1 f1 c2 f2 c3 f3 b4; obtain ⟨⟨c1, f1, -⟩, ⟨c2, f2, -⟩, ⟨c3, f3, -⟩⟩ := C5.out.at3))
      all_goals
        obtain ⟨g', o, ho, hg', hco, hfo⟩ := Own4.out.at_ (k := k) (by rw [Hxl.out]; exact hlt)
        simp only [Option.some.injEq, Addr.mk.injEq, and_true] at hg'
        subst hg'
        clear ho
        have C6 := hd (C5.out.set (r := g) (by simp; omega) (by omega) k (.string (showC W (x + y))))
        go_wp2
        go_roundw
        case rel => exact ⟨k + 1, xs.set k (showC W (x + y)), by omega, by go_num, by rw [List.length_set]; exact Hxl.out, take_set_succ (by rw [Hxl.out]; exact hlt) Hxt.out Hz.out, Own4.out.set k _, C6.out⟩
        case measure => simp [intOf] <;> omega
    · obtain rfl : k = n := by omega
      have Hel : Hid ((eng W zs).length = k) := hd (by rw [eng_length, Hzl.out])
      have Hxe : Hid (xs = eng W zs) := hd (by
        have h1 := Hxt.out
        rwa [List.take_of_length_le (by rw [Hxl.out]; omega), List.take_of_length_le (by rw [Hel.out]; omega)] at h1)
      rw [Hxe.out] at Own
      have Ow := hd ((Own.out.keep_lo (grown_set wr ⟨w.heap.size + 2, 0, none⟩ (.slice (some ⟨g, 0, none⟩) k k)) (fun r hr => by simp at hr; omega)).low (show w.heap.size ≤ w.heap.size + 3 by omega))
      go_wp2
      exact bodyPost_ret (v := .tuple #[.agg #[.slice (some ⟨g, 0, none⟩) k k], .bool true]) (by simp [results, Try.results32, c1, go_sem]) rfl (RetEO.some_ Hf.out Ow.out Hel.out.symm (C4.out.done (by omega) _))

end Go.Proofs.Ytkmblobfamhoiaa
