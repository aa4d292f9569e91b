/- The contract of the program's WidenEngine, for whatever comes in. -/
import Derived.Test.YtcalheieakppmaaEngH
namespace Go.Proofs.Ytcalheieakppmaa
open Go.RowKit
set_option maxRecDepth 4000

theorem widF_none {cs : List ByteArray} {N : Int} (h : engV cs = false) : widF cs N = none := by rw [widF, if_neg (by rw [h]; simp)]
theorem widF_some {cs : List ByteArray} {N : Int} (h : engV cs = true) : widF cs N = setE ((cvs cs).map (sgn (hsz cs))) N := by rw [widF, if_pos h]

set_option maxHeartbeats 3200000 in
theorem WidenEngine_any (A : Option Addr) (c n : Nat) (cs : List ByteArray) (N : Int) (w : World) (hn : cs.length = n) (h : SS w A cs) (hs : Short cs) :
    Calls Try.prog 36 #[.agg #[.slice A n c], .int .i64 N] w fun e w' => RetEO 9 w.heap.size w (widF cs N) e w' := by
  obtain ⟨i0, hi, hz0, hz1, hz2⟩ := info_parts infoS
  have Hh := hd h
  have Hs := hd hs
  have Hn := hd hn
  have C0 := hd (Cs.two w (.slice A n c) (.slice none 0 0) 31 31)
  clear h hs hn
  cases hv : engV cs
  · have Hf := hd (widF_none (N := N) hv)
    have Hv := hd hv
    clear hv
    go_enter Try.func36, Try.ntmps36
    go_wp2_with fail
    refine (EngineValid_b _ A c cs false _ Hn.out (Hh.out.below C0.out.1) Hs.out Hv.out).mono ?_
    rintro e w1 ⟨rfl, b1⟩
    have C1 := hd (C0.out.below b1)
    obtain ⟨⟨c1, f1, -⟩, ⟨c2, f2, -⟩⟩ := C1.out.at2
    clear b1
    go_wp2
    exact bodyPost_ret (v := .tuple #[.agg #[.slice none 0 0], .bool false]) (by simp [results, Try.results36, c1, go_sem]) rfl (RetEO.none_ Hf.out (C1.out.done (by omega) _))
  have Hv := hd hv
  have Hf0 := hd (widF_some (N := N) hv)
  obtain ⟨he, hW1, hW12, hn1, hn7⟩ := engV_vals hv
  have Hl : Hid ((cvs cs).length = n) := hd (by simp [cvs, Hn.out])
  obtain ⟨W, hW⟩ : ∃ W, W = hsz cs := ⟨_, rfl⟩
  obtain ⟨vs, hvs⟩ : ∃ vs, vs = cvs cs := ⟨_, rfl⟩
  rw [← hW, ← hvs] at he Hf0
  rw [← hW] at hW1 hW12
  rw [← hvs] at hn1 hn7 Hl
  rw [Hl.out] at hn1 hn7
  have He := hd he
  obtain ⟨us, Hus⟩ : ∃ us, Hid (vs.map (sgn W) = us) := ⟨_, hd rfl⟩
  rw [Hus.out] at Hf0
  have Hul : Hid (us.length = n) := hd (by rw [← Hus.out, List.length_map, Hl.out])
  clear hv he hW hvs
  go_enter Try.func36, Try.ntmps36
  go_wp2_with fail
  refine (EngineValid_b _ A c cs true _ Hn.out (Hh.out.below C0.out.1) Hs.out Hv.out).mono ?_
  rintro e w1 ⟨rfl, b1⟩
  have C1 := hd (C0.out.below b1)
  obtain ⟨⟨c1, f1, g1⟩, ⟨c2, f2, -⟩⟩ := C1.out.at2
  clear b1
  go_wp2_with (at_make; refine wpList_make_full _ rfl _ _ 27 rfl w1.heap.size 9 i0 (.string ByteArray.empty) 1 Try.underlying27 hi hz0 hz1 .i64 .i64 _ _ n rfl rfl rfl rfl (by rw [hz2]; omega) (by unfold maxLen; omega) (Nat.le_refl _) ?_; intro w3 hown hgrow; have Own3 : Hid (OwnS 9 (w.heap.size + 2) w3 (some ⟨w1.heap.size, 0, none⟩) n (List.replicate n ByteArray.empty)) := hd ((OwnG.made ByteArray.empty rfl hown (by omega)).low (by omega)); have C3 := hd (C1.out.below ((Below.refl w1.heap.size w1).grown hgrow (Nat.le_refl _) (by simp))); clear c1 f1 c2 f2 hown hgrow; obtain ⟨⟨c1, f1, -⟩, ⟨c2, f2, -⟩⟩ := C3.out.at2)
  obtain ⟨g, hg⟩ : ∃ g, g = w1.heap.size := ⟨_, rfl⟩
  rw [← hg] at Own3 g1 ⊢
  go_loopw [22] (fun i wr => ∃ (k : Nat) (xs : List ByteArray), k ≤ n ∧ i = .int .i64 k ∧ xs.length = n ∧ xs.take k = (eng N.toNat us).take k ∧ AllOk us N k ∧ OwnS 9 (w.heap.size + 2) wr (some ⟨g, 0, none⟩) n xs ∧ Cs w wr [(w.heap.size + 1, .slice none 0 0), (w.heap.size, .slice A n c)])
    (fun i _ => n - (intOf i).toNat)
  case atStart => exact ⟨0, List.replicate n ByteArray.empty, by omega, rfl, by simp, rfl, AllOk.zero _ _, Own3.out, C3.out⟩
  case round =>
    clear Own3 C3 c1 f1 c2 f2 hg
    obtain ⟨k, xs, hk, rfl, hxl, hxt, hok, own, cc⟩ := hrel
    have Hxl := hd hxl
    have Hxt := hd hxt
    have Hok := hd hok
    have Own := hd own
    have C4 := hd cc
    clear hxl hxt hok own cc
    obtain ⟨⟨c1, f1, -⟩, ⟨c2, f2, -⟩⟩ := C4.out.at2
    by_cases hlt : k < n
    · obtain ⟨x, Hx⟩ : ∃ x, Hid (vs[k]? = some x) := ⟨vs[k]'(by rw [Hl.out]; omega), hd (List.getElem?_eq_getElem _)⟩
      have Hu : Hid (us[k]? = some (sgn W x)) := hd (by rw [← Hus.out, List.getElem?_map, Hx.out]; rfl)
      have HS : Hid (SS wr A (eng W vs)) := hd (by rw [← He.out]; exact Hh.out.below C4.out.1)
      obtain ⟨s1, b, off, hs1, rfl, hb, hc1⟩ := HS.out.at_ (k := k) (by rw [eng_length, Hl.out]; omega)
      obtain rfl : s1 = showC W x := by rw [eng_at Hx.out] at hs1; injection hs1 with hs1; exact hs1.symm
      clear hs1
      cases hco : colO (sgn W x) N with
      | none =>
        have Hf : Hid (widF cs N = none) := hd (by rw [Hf0.out]; exact setE_fail Hu.out hco)
        have Hco := hd hco
        clear hco
        go_wp2_with fail
        refine (WidenColumn_c W x N _ hW1 hW12).mono ?_
        rintro e w4 ⟨rfl, b4⟩
        have C5 := hd (C4.out.below b4)
        rw [Hco.out]
        clear c1 f1 c2 f2 b4
        obtain ⟨⟨c1, f1, -⟩, ⟨c2, f2, -⟩⟩ := C5.out.at2
        simp only [Option.getD_none, Option.isSome_none]
        go_wp2
        exact bodyPost_ret (v := .tuple #[.agg #[.slice none 0 0], .bool false]) (by simp [results, Try.results36, c1, go_sem]) rfl (RetEO.none_ Hf.out (C5.out.done (by omega) _))
      | some s =>
        obtain ⟨rfl, -, -, -⟩ := colO_is hco
        have Hco := hd hco
        clear hco
        have Hz : Hid ((eng N.toNat us)[k]? = some (showC N.toNat (sgn W x))) := hd (eng_at Hu.out)
        go_wp2_with fail
        refine (WidenColumn_c W x N _ hW1 hW12).mono ?_
        rintro e w4 ⟨rfl, b4⟩
        have Own4 := hd (Own.out.below b4)
        have C5 := hd (C4.out.below b4)
        rw [Hco.out]
        clear c1 f1 c2 f2 b4
        obtain ⟨⟨c1, f1, -⟩, ⟨c2, f2, -⟩⟩ := C5.out.at2
        obtain ⟨g', o, ho, hg', hco2, hfo⟩ := Own4.out.at_ (k := k) (by rw [Hxl.out]; exact hlt)
        simp only [Option.some.injEq, Addr.mk.injEq, and_true] at hg'
        subst hg'
        clear ho
        have C6 := hd (C5.out.set (r := g) (by simp; omega) (by omega) k (.string (showC N.toNat (sgn W x))))
        simp only [Option.getD_some, Option.isSome_some]
        go_wp2
        go_roundw
        case rel => exact ⟨k + 1, xs.set k (showC N.toNat (sgn W x)), by omega, by go_num, by rw [List.length_set]; exact Hxl.out, take_set_succ (by rw [Hxl.out]; exact hlt) Hxt.out Hz.out, Hok.out.succ Hu.out Hco.out, Own4.out.set k _, C6.out⟩
        case measure => simp [intOf] <;> omega
    · obtain rfl : k = n := by omega
      have Hel : Hid ((eng N.toNat us).length = k) := hd (by rw [eng_length, Hul.out])
      have Hf : Hid (widF cs N = some (eng N.toNat us)) := hd (by rw [Hf0.out]; exact setE_all (by rw [Hul.out]; exact hn1) (by rw [Hul.out]; exact Hok.out))
      have Hxe : Hid (xs = eng N.toNat us) := hd (by
        have h1 := Hxt.out
        rwa [List.take_of_length_le (by rw [Hxl.out]; omega), List.take_of_length_le (by rw [Hel.out]; omega)] at h1)
      rw [Hxe.out] at Own
      have Ow := hd ((Own.out.keep_lo (grown_set wr ⟨w.heap.size + 1, 0, none⟩ (.slice (some ⟨g, 0, none⟩) k k)) (fun r hr => by simp at hr; omega)).low (show w.heap.size ≤ w.heap.size + 2 by omega))
      go_wp2
      exact bodyPost_ret (v := .tuple #[.agg #[.slice (some ⟨g, 0, none⟩) k k], .bool true]) (by simp [results, Try.results36, c1, go_sem]) rfl (RetEO.some_ Hf.out Ow.out Hel.out.symm (C4.out.done (by omega) _))

end Go.Proofs.Ytcalheieakppmaa
