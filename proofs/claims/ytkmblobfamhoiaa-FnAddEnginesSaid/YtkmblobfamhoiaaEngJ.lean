/- The contract of the reference's WidenEngine, for whatever comes in. -/
import Derived.Test.YtkmblobfamhoiaaGrJ
import Derived.Test.YtkmblobfamhoiaaGrG
namespace Go.Proofs.Ytkmblobfamhoiaa
open Go.RowKit
set_option maxRecDepth 4000

theorem drop_at {α : Type} {xs ys : List α} {k : Nat} (h : xs.drop k = ys.drop k) : xs[k]? = ys[k]? := by
  have h1 : (xs.drop k)[0]? = xs[k]? := by rw [List.getElem?_drop, Nat.add_zero]
  have h2 : (ys.drop k)[0]? = ys[k]? := by rw [List.getElem?_drop, Nat.add_zero]
  rw [← h1, ← h2, h]
theorem drop_set_next {α : Type} {xs ys : List α} {k : Nat} (x : α) (h : xs.drop k = ys.drop k) : (xs.set k x).drop (k + 1) = ys.drop (k + 1) := by
  rw [List.drop_set_of_lt (by omega)]
  have h1 : (xs.drop k).drop 1 = (ys.drop k).drop 1 := by rw [h]
  rwa [List.drop_drop, List.drop_drop] at h1

set_option maxHeartbeats 3200000 in
theorem sWidenEngine_any (A : Option Addr) (c n : Nat) (cs : List ByteArray) (N : Int) (w : World) (hn : cs.length = n) (h : SS w A cs) (hs : Short cs) :
    Calls Try.prog 46 #[.agg #[.slice A n c], .int .i64 N] w fun e w' => RetEO 9 w.heap.size w (widF cs N) e w' := by
  have Hh := hd h
  have Hs := hd hs
  have Hn := hd hn
  have C0 := hd (Cs.two w (.slice A n c) (.slice none 0 0) 36 36)
  clear h hs hn
  cases hv : engV cs
  · have Hf := hd (widF_none (N := N) hv)
    have Hv := hd hv
    clear hv
    go_enter Try.func46, Try.ntmps46
    go_wp2_with fail
    refine (sEngineValid_b _ A c cs false _ Hn.out (Hh.out.below C0.out.1) Hs.out Hv.out).mono ?_
    rintro e w1 ⟨rfl, b1⟩
    have C1 := hd (C0.out.below b1)
    obtain ⟨⟨c1, f1, -⟩, ⟨c2, f2, -⟩⟩ := C1.out.at2
    clear b1
    go_wp2
    exact bodyPost_ret (v := .tuple #[.agg #[.slice none 0 0], .bool false]) (by simp [results, Try.results46, c1, go_sem]) rfl (RetEO.none_ Hf.out (C1.out.done (by omega) _))
  have Hv := hd hv
  have Hf0 := hd (widF_some (N := N) hv)
  obtain ⟨he, hW1, hW12, hn1, hn7⟩ := engV_vals hv
  have Hl : Hid ((cvs cs).length = n) := hd (by simp [cvs, Hn.out])
  obtain ⟨W, hW⟩ : ∃ W, W = hsz cs := ⟨_, rfl⟩
  obtain ⟨vs, hvs⟩ : ∃ vs, vs = cvs cs := ⟨_, rfl⟩
  rw [← hW, ← hvs] at he Hf0
  rw [← hW] at hW1 hW12
  rw [← hvs] at hn1 hn7 Hl
  rw [Hl.out] at hn1 hn7
  have He := hd he
  obtain ⟨us, Hus⟩ : ∃ us, Hid (vs.map (sgn W) = us) := ⟨_, hd rfl⟩
  rw [Hus.out] at Hf0
  have Hul : Hid (us.length = n) := hd (by rw [← Hus.out, List.length_map, Hl.out])
  have Hel0 : Hid ((eng W vs).length = n) := hd (by rw [eng_length, Hl.out])
  clear hv he hW hvs
  go_enter Try.func46, Try.ntmps46
  go_wp2_with fail
  refine (sEngineValid_b _ A c cs true _ Hn.out (Hh.out.below C0.out.1) Hs.out Hv.out).mono ?_
  rintro e w1 ⟨rfl, b1⟩
  have C1 := hd (C0.out.below b1)
  obtain ⟨⟨c1, f1, g1⟩, ⟨c2, f2, -⟩⟩ := C1.out.at2
  have S1 : Hid (SS w1 A (eng W vs)) := hd (by rw [← He.out]; exact Hh.out.below C1.out.1)
  clear b1
  go_wp2_with fail
  refine (l3Copy_any A c n (eng W vs) _ S1.out Hel0.out hn1 (by omega)).mono ?_
  rintro e w2 ⟨A1, cap1, rfl, own1, b1⟩
  obtain ⟨g, hA1, hg1, hg2⟩ := own1.addr (by rw [Hel0.out]; omega)
  subst hA1
  have hg3 : w.heap.size + 2 ≤ g := by omega
  have Own1 := hd (own1.low (B' := w.heap.size + 2) (by omega))
  rw [Hel0.out]
  have C2 := hd (C1.out.below b1)
  have C3 := hd (C2.out.new (.slice (some ⟨g, 0, none⟩) n cap1) 36 rfl)
  have Own3 := hd (Own1.out.alloc (.cells #[.slice (some ⟨g, 0, none⟩) n cap1] 36))
  obtain ⟨gc, hgc⟩ : ∃ gc, gc = w2.heap.size := ⟨_, rfl⟩
  have hgo : g ≠ gc := by omega
  have hgc2 : w.heap.size + 2 ≤ gc := by omega
  clear c1 f1 c2 f2 b1 own1 S1
  rw [← hgc] at C3
  obtain ⟨⟨c0, f0, -⟩, ⟨c1, f1, -⟩, ⟨c2, f2, -⟩⟩ := C3.out.at3
  go_wp2
  rw [← hgc]
  go_loopw [7] (fun i wr => ∃ (k : Nat) (xs : List ByteArray), k ≤ n ∧ i = .int .i64 k ∧ xs.length = n ∧ xs.take k = (eng N.toNat us).take k ∧ xs.drop k = (eng W vs).drop k ∧ AllOk us N k ∧ OwnS 9 (w.heap.size + 2) wr (some ⟨g, 0, none⟩) cap1 xs ∧ Cs w wr [(gc, .slice (some ⟨g, 0, none⟩) n cap1), (w.heap.size + 1, .slice none 0 0), (w.heap.size, .slice A n c)])
    (fun i _ => n - (intOf i).toNat)
  case atStart => exact ⟨0, eng W vs, by omega, rfl, Hel0.out, rfl, rfl, AllOk.zero _ _, Own3.out, C3.out⟩
  case round =>
    clear Own3 C3 C2 Own1 c0 f0 c1 f1 c2 f2 hgc
    obtain ⟨k, xs, hk, rfl, hxl, hxt, hxd, hok, own, cc⟩ := hrel
    have Hxl := hd hxl
    have Hxt := hd hxt
    have Hxd := hd hxd
    have Hok := hd hok
    have Own := hd own
    have C4 := hd cc
    clear hxl hxt hxd hok own cc
    obtain ⟨⟨c0, f0, -⟩, ⟨c1, f1, -⟩, ⟨c2, f2, -⟩⟩ := C4.out.at3
    by_cases hlt : k < n
    · obtain ⟨x, Hx⟩ : ∃ x, Hid (vs[k]? = some x) := ⟨vs[k]'(by rw [Hl.out]; omega), hd (List.getElem?_eq_getElem _)⟩
      have Hu : Hid (us[k]? = some (sgn W x)) := hd (by rw [← Hus.out, List.getElem?_map, Hx.out]; rfl)
      obtain ⟨g', s1, hs1, hg', hc1, hf1⟩ := Own.out.at_ (k := k) (by rw [Hxl.out]; exact hlt)
      simp only [Option.some.injEq, Addr.mk.injEq, and_true] at hg'
      subst hg'
      obtain rfl : s1 = showC W x := by
        rw [drop_at Hxd.out, eng_at Hx.out] at hs1; injection hs1 with hs1; exact hs1.symm
      clear hs1
      cases hco : colO (sgn W x) N with
      | none =>
        have Hf : Hid (widF cs N = none) := hd (by rw [Hf0.out]; exact setE_fail Hu.out hco)
        have Hco := hd hco
        clear hco
        go_wp2_with fail
        refine (sWidenColumn_c W x N _ hW1 hW12).mono ?_
        rintro e w4 ⟨rfl, b4⟩
        have C5 := hd (C4.out.below b4)
        rw [Hco.out]
        clear c0 f0 c1 f1 c2 f2 b4 hc1 hf1
        obtain ⟨⟨c0, f0, -⟩, ⟨c1, f1, -⟩, ⟨c2, f2, -⟩⟩ := C5.out.at3
        simp only [Option.getD_none, Option.isSome_none]
        go_wp2
        exact bodyPost_ret (v := .tuple #[.agg #[.slice none 0 0], .bool false]) (by simp [results, Try.results46, c1, go_sem]) rfl (RetEO.none_ Hf.out (C5.out.done (by omega) _))
      | some s =>
        obtain ⟨rfl, -, -, -⟩ := colO_is hco
        have Hco := hd hco
        clear hco
        have Hz : Hid ((eng N.toNat us)[k]? = some (showC N.toNat (sgn W x))) := hd (eng_at Hu.out)
        go_wp2_with fail
        refine (sWidenColumn_c W x N _ hW1 hW12).mono ?_
        rintro e w4 ⟨rfl, b4⟩
        have Own4 := hd (Own.out.below b4)
        have C5 := hd (C4.out.below b4)
        rw [Hco.out]
        clear c0 f0 c1 f1 c2 f2 b4 hc1 hf1
        obtain ⟨⟨c0, f0, -⟩, ⟨c1, f1, -⟩, ⟨c2, f2, -⟩⟩ := C5.out.at3
        obtain ⟨g', o, ho, hg', hco2, hfo⟩ := Own4.out.at_ (k := k) (by rw [Hxl.out]; exact hlt)
        simp only [Option.some.injEq, Addr.mk.injEq, and_true] at hg'
        subst hg'
        clear ho
        have C6 := hd (C5.out.set (r := g) (by simp; omega) (by omega) k (.string (showC N.toNat (sgn W x))))
        simp only [Option.getD_some, Option.isSome_some]
        go_wp2
        go_roundw
        case rel => exact ⟨k + 1, xs.set k (showC N.toNat (sgn W x)), by omega, by go_num, by rw [List.length_set]; exact Hxl.out, take_set_succ (by rw [Hxl.out]; exact hlt) Hxt.out Hz.out, drop_set_next _ Hxd.out, Hok.out.succ Hu.out Hco.out, Own4.out.set k _, C6.out⟩
        case measure => simp [intOf] <;> omega
    · obtain rfl : k = n := by omega
      have Hel : Hid ((eng N.toNat us).length = k) := hd (by rw [eng_length, Hul.out])
      have Hf : Hid (widF cs N = some (eng N.toNat us)) := hd (by rw [Hf0.out]; exact setE_all (by rw [Hul.out]; exact hn1) (by rw [Hul.out]; exact Hok.out))
      have Hxe : Hid (xs = eng N.toNat us) := hd (by
        have h1 := Hxt.out
        rwa [List.take_of_length_le (by rw [Hxl.out]; omega), List.take_of_length_le (by rw [Hel.out]; omega)] at h1)
      rw [Hxe.out] at Own
      have Ow := hd ((Own.out.keep_lo (grown_set wr ⟨w.heap.size + 1, 0, none⟩ (.slice (some ⟨g, 0, none⟩) k cap1)) (fun r hr => by simp at hr; omega)).low (show w.heap.size ≤ w.heap.size + 2 by omega))
      go_wp2
      exact bodyPost_ret (v := .tuple #[.agg #[.slice (some ⟨g, 0, none⟩) k cap1], .bool true]) (by simp [results, Try.results46, c1, go_sem]) rfl (RetEO.some_ Hf.out Ow.out Hel.out.symm (C4.out.done (by omega) _))

theorem widF_length {N : Int} {cs z : List ByteArray} (h : (widF cs N).getD [] = z) : z.length ≤ 1048576 := by
  subst h
  cases hv : engV cs
  · rw [widF_none hv]; simp
  · rw [widF_some hv, setE]
    split
    · have := (engV_vals hv).2.2.2.2
      simp only [Option.getD_some, eng_length, List.length_map]
      omega
    · simp
theorem sWidenEngine_z (N : Int) (A : Option Addr) (c n : Nat) (cs z : List ByteArray) (ok : Bool) (w : World) (hn : cs.length = n) (h : SS w A cs) (hs : Short cs) (hz : (widF cs N).getD [] = z ∧ (widF cs N).isSome = ok) :
    Calls Try.prog 46 #[.agg #[.slice A n c], .int .i64 N] w fun e w' => RetEB 9 w.heap.size w z ok e w' := by
  obtain ⟨rfl, rfl⟩ := hz
  exact sWidenEngine_any A c n cs N w hn h hs
theorem WidenEngine_z (N : Int) (A : Option Addr) (c n : Nat) (cs z : List ByteArray) (ok : Bool) (w : World) (hn : cs.length = n) (h : SS w A cs) (hs : Short cs) (hz : (widF cs N).getD [] = z ∧ (widF cs N).isSome = ok) :
    Calls Try.prog 45 #[.agg #[.slice A n c], .int .i64 N] w fun e w' => RetEB 9 w.heap.size w z ok e w' := by
  obtain ⟨rfl, rfl⟩ := hz
  exact WidenEngine_any A c n cs N w hn h hs

end Go.Proofs.Ytkmblobfamhoiaa
