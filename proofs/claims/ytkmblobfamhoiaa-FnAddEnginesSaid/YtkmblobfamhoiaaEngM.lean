/- Contracts of both sides' SetUp, for whatever comes in. -/
import Derived.Test.YtkmblobfamhoiaaEngL
import Derived.Test.YtkmblobfamhoiaaMemV
namespace Go.Proofs.Ytkmblobfamhoiaa
open Go.RowKit
set_option maxRecDepth 4000

def setF (p : List Int) (n N : Int) : Option (List ByteArray) := (shiftP p n).bind fun q => setE q N
theorem setF_none {p : List Int} {n N : Int} (h : shiftP p n = none) : setF p n N = none := by rw [setF, h]; rfl
theorem setF_some {p q : List Int} {n N : Int} (h : shiftP p n = some q) : setF p n N = setE q N := by rw [setF, h]; rfl

theorem Cs.one (w : World) (v : Value) (T : TypeId) : Cs w (w.alloc (.cells #[v] T)) [(w.heap.size, v)] := (Cs.nil w).new v T rfl
theorem Cs.lowB {w w1 w2 : World} {l : List (Nat × Value)} {B : Nat} (h : Cs w w1 l) (b : Below B w1 w2) (hB : ∀ p ∈ l, p.1 < B) (hw : w.heap.size ≤ B) : Cs w w2 l :=
  ⟨h.1.trans (b.mono hw), fun p hp => ⟨(h.2 p hp).1.lowB b (hB p hp), (h.2 p hp).2⟩⟩

set_option maxHeartbeats 3200000 in
theorem SetUp_any (A : Option Addr) (c : Nat) (p : List Int) (n N : Int) (w : World) (h : SI w A p) (hcap : p.length ≤ c) :
    Calls Try.prog 49 #[.slice A p.length c, .int .i64 n, .int .i64 N] w fun e w' => RetEO 9 w.heap.size w (setF p n N) e w' := by
  obtain ⟨i0, hi, hz0, hz1, hz2⟩ := info_parts infoS
  have Hh := hd h
  have C0 := hd (Cs.one w (.slice none 0 0) 36)
  clear h
  cases hr : shiftP p n with
  | none =>
    have Hf := hd (setF_none (N := N) hr)
    have Hr := hd hr
    clear hr
    go_enter Try.func49, Try.ntmps49
    go_wp2_with fail
    refine (ShiftPoly_any A c p n _ (Hh.out.alloc _) hcap).mono ?_
    rintro e w1 ⟨A2, c2, rfl, own2, b2⟩
    have C1 := hd (C0.out.below b2)
    obtain ⟨c1, f1, -⟩ := C1.out.at1
    simp only [Hr.out, Option.getD_none, Option.isSome_none]
    clear own2 b2
    go_wp2
    exact bodyPost_ret (v := .tuple #[.agg #[.slice none 0 0], .bool false]) (by simp [results, Try.results49, c1, go_sem]) rfl (RetEO.none_ Hf.out (C1.out.done (by omega) _))
  | some q =>
    have Hf0 := hd (setF_some (N := N) hr)
    have Hr := hd hr
    obtain ⟨-, hvq, -, -, -, -⟩ := shiftP_some hr
    obtain ⟨hq1, hq7, -⟩ := validP_iff.1 hvq
    obtain ⟨m, Hm⟩ : ∃ m, Hid (q.length = m) := ⟨_, hd rfl⟩
    rw [Hm.out] at hq1 hq7
    clear hr hvq
    go_enter Try.func49, Try.ntmps49
    go_wp2_with fail
    refine (ShiftPoly_any A c p n _ (Hh.out.alloc _) hcap).mono ?_
    rintro e w1 ⟨A2, c2, rfl, own2, b2⟩
    have C1 := hd (C0.out.below b2)
    obtain ⟨c1, f1, g1⟩ := C1.out.at1
    rw [Hr.out] at own2
    simp only [Hr.out, Option.getD_some, Option.isSome_some, Hm.out]
    simp only [Option.getD_some] at own2
    have HQ := hd own2.si
    clear own2 b2
    go_wp2_with (at_make; refine wpList_make_full _ rfl _ _ 30 rfl w1.heap.size 9 i0 (.string ByteArray.empty) 1 Try.underlying30 hi hz0 hz1 .i64 .i64 _ _ m rfl rfl rfl rfl (by rw [hz2]; omega) (by unfold maxLen; omega) (Nat.le_refl _) ?_; intro w3 hown hgrow; have Own3 : Hid (OwnS 9 (w.heap.size + 1) w3 (some ⟨w1.heap.size, 0, none⟩) m (List.replicate m ByteArray.empty)) := hd ((OwnG.made ByteArray.empty rfl hown (by omega)).low (by omega)); have B3 := hd ((Below.refl w1.heap.size w1).grown hgrow (Nat.le_refl _) (by simp)); have C3 := hd (C1.out.below B3.out); clear c1 f1 hown hgrow; obtain ⟨c1, f1, -⟩ := C3.out.at1)
    go_loopw [27] (fun i wr => ∃ (k : Nat) (xs : List ByteArray), k ≤ m ∧ i = .int .i64 k ∧ xs.length = m ∧ xs.take k = (eng N.toNat q).take k ∧ AllOk q N k ∧ OwnS 9 (w.heap.size + 1) wr (some ⟨w1.heap.size, 0, none⟩) m xs ∧ Below w1.heap.size w1 wr)
      (fun i _ => m - (intOf i).toNat)
    case atStart => exact ⟨0, List.replicate m ByteArray.empty, by omega, rfl, by simp, rfl, AllOk.zero _ _, Own3.out, B3.out⟩
    case round =>
      clear Own3 C3 B3 c1 f1
      obtain ⟨k, xs, hk, rfl, hxl, hxt, hok, own, bw⟩ := hrel
      have Hxl := hd hxl
      have Hxt := hd hxt
      have Hok := hd hok
      have Own := hd own
      have Bw := hd bw
      have C4 := hd (C1.out.below bw)
      clear hxl hxt hok own bw
      obtain ⟨c1, f1, -⟩ := C4.out.at1
      by_cases hlt : k < m
      · have HQr := hd (HQ.out.below Bw.out)
        obtain ⟨x, b, off, hx, rfl, hbw, hc⟩ := HQr.out.at_ (k := k) (by rw [Hm.out]; exact hlt)
        have Hx := hd hx
        clear hx HQr
        cases hco : colO x N with
        | none =>
          have Hf : Hid (setF p n N = none) := hd (by rw [Hf0.out]; exact setE_fail Hx.out hco)
          have Hco := hd hco
          clear hco
          go_wp2_with fail
          refine (ColumnOf_any x N _).mono ?_
          rintro e w4 ⟨rfl, b4⟩
          have Own4 := hd (Own.out.below b4)
          have C5 := hd (C4.out.below b4)
          simp only [Hco.out, Option.getD_none, Option.isSome_none]
          clear c1 f1 b4 hc
          obtain ⟨c1, f1, -⟩ := C5.out.at1
          obtain ⟨g', o, ho, hg', hco2, hfo⟩ := Own4.out.at_ (k := k) (by rw [Hxl.out]; exact hlt)
          simp only [Option.some.injEq, Addr.mk.injEq, and_true] at hg'
          subst hg'
          clear ho
          have C6 := hd (C5.out.set (r := w1.heap.size) (by simp; omega) (by omega) k (.string ByteArray.empty))
          go_wp2
          exact bodyPost_ret (v := .tuple #[.agg #[.slice none 0 0], .bool false]) (by simp [results, Try.results49, c1, go_sem]) rfl (RetEO.none_ Hf.out (C6.out.done (by omega) _))
        | some s =>
          obtain ⟨rfl, -, -, -⟩ := colO_is hco
          have Hco := hd hco
          clear hco
          have Hz : Hid ((eng N.toNat q)[k]? = some (showC N.toNat x)) := hd (eng_at Hx.out)
          have Hnx := hd (Hok.out.succ Hx.out Hco.out)
          go_wp2_with fail
          refine (ColumnOf_any x N _).mono ?_
          rintro e w4 ⟨rfl, b4⟩
          have Own4 := hd (Own.out.below b4)
          have hgr : w1.heap.size ≤ wr.heap.size := by have := Bw.out.size; omega
          have Bw4 := hd ((Bw.out.trans (b4.mono hgr)).setCell (p := ⟨w1.heap.size, k, none⟩) (Nat.le_refl _) (.string (showC N.toNat x)))
          simp only [Hco.out, Option.getD_some, Option.isSome_some]
          have C5 := hd (C4.out.below b4)
          clear c1 f1 b4 hc
          obtain ⟨c1, f1, -⟩ := C5.out.at1
          obtain ⟨g', o, ho, hg', hco2, hfo⟩ := Own4.out.at_ (k := k) (by rw [Hxl.out]; exact hlt)
          simp only [Option.some.injEq, Addr.mk.injEq, and_true] at hg'
          subst hg'
          clear ho
          go_wp2
          go_roundw
          case rel => exact ⟨k + 1, xs.set k (showC N.toNat x), by omega, by go_num, by rw [List.length_set]; exact Hxl.out, take_set_succ (by rw [Hxl.out]; exact hlt) Hxt.out Hz.out, Hnx.out, Own4.out.set k _, Bw4.out⟩
          case measure => simp [intOf] <;> omega
      · obtain rfl : k = m := by omega
        have Hel : Hid ((eng N.toNat q).length = k) := hd (by rw [eng_length, Hm.out])
        have Hf : Hid (setF p n N = some (eng N.toNat q)) := hd (by rw [Hf0.out]; exact setE_all (by rw [Hm.out]; exact hq1) (by rw [Hm.out]; exact Hok.out))
        have Hxe : Hid (xs = eng N.toNat q) := hd (by
          have h1 := Hxt.out
          rwa [List.take_of_length_le (by rw [Hxl.out]; omega), List.take_of_length_le (by rw [Hel.out]; omega)] at h1)
        rw [Hxe.out] at Own
        have Ow := hd ((Own.out.keep_lo (grown_set wr ⟨w.heap.size, 0, none⟩ (.slice (some ⟨w1.heap.size, 0, none⟩) k k)) (fun r hr => by simp at hr; omega)).low (show w.heap.size ≤ w.heap.size + 1 by omega))
        go_wp2
        exact bodyPost_ret (v := .tuple #[.agg #[.slice (some ⟨w1.heap.size, 0, none⟩) k k], .bool true]) (by simp [results, Try.results49, c1, go_sem]) rfl (RetEO.some_ Hf.out Ow.out Hel.out.symm (C4.out.done (by omega) _))

theorem eng_take_succ {W : Nat} {q : List Int} {k : Nat} {x : Int} (h : q[k]? = some x) : (eng W q).take (k + 1) = (eng W q).take k ++ [showC W x] := by
  obtain ⟨h1, h2⟩ := List.getElem?_eq_some_iff.1 (eng_at (W := W) h)
  rw [List.take_succ_eq_append_getElem h1, h2]

set_option maxHeartbeats 3200000 in
theorem sSetUp_any (A : Option Addr) (c : Nat) (p : List Int) (n N : Int) (w : World) (h : SI w A p) :
    Calls Try.prog 50 #[.slice A p.length c, .int .i64 n, .int .i64 N] w fun e w' => RetEO 9 w.heap.size w (setF p n N) e w' := by
  obtain ⟨i0, hi, hz0, hz1, hz2⟩ := info_parts infoS
  have Hh := hd h
  have C0 := hd (Cs.one w (.slice none 0 0) 36)
  clear h
  cases hr : shiftP p n with
  | none =>
    have Hf := hd (setF_none (N := N) hr)
    have Hr := hd hr
    clear hr
    go_enter Try.func50, Try.ntmps50
    go_wp2_with fail
    refine (sShiftPoly_any A c p n _ (Hh.out.alloc _)).mono ?_
    rintro e w1 ⟨A2, c2, rfl, own2, b2⟩
    have C1 := hd (C0.out.below b2)
    obtain ⟨c1, f1, -⟩ := C1.out.at1
    simp only [Hr.out, Option.getD_none, Option.isSome_none]
    clear own2 b2
    go_wp2
    exact bodyPost_ret (v := .tuple #[.agg #[.slice none 0 0], .bool false]) (by simp [results, Try.results50, c1, go_sem]) rfl (RetEO.none_ Hf.out (C1.out.done (by omega) _))
  | some q =>
    have Hf0 := hd (setF_some (N := N) hr)
    have Hr := hd hr
    obtain ⟨-, hvq, -, -, -, -⟩ := shiftP_some hr
    obtain ⟨hq1, hq7, -⟩ := validP_iff.1 hvq
    obtain ⟨m, Hm⟩ : ∃ m, Hid (q.length = m) := ⟨_, hd rfl⟩
    rw [Hm.out] at hq1 hq7
    clear hr hvq
    cases hw : wV N
    · have Hf : Hid (setF p n N = none) := hd (by rw [Hf0.out]; exact setE_out hw)
      go_enter Try.func50, Try.ntmps50
      go_wp2_with fail
      refine (sShiftPoly_any A c p n _ (Hh.out.alloc _)).mono ?_
      rintro e w1 ⟨A2, c2, rfl, own2, b2⟩
      have C1 := hd (C0.out.below b2)
      obtain ⟨c1, f1, -⟩ := C1.out.at1
      simp only [Hr.out, Option.getD_some, Option.isSome_some, Hm.out]
      clear own2 b2
      go_wp2_with fail
      refine (l1Width_b N false _ hw).mono ?_
      rintro e w' ⟨rfl, rfl⟩
      go_wp2
      exact bodyPost_ret (v := .tuple #[.agg #[.slice none 0 0], .bool false]) (by simp [results, Try.results50, c1, go_sem]) rfl (RetEO.none_ Hf.out (C1.out.done (by omega) _))
    go_enter Try.func50, Try.ntmps50
    go_wp2_with fail
    refine (sShiftPoly_any A c p n _ (Hh.out.alloc _)).mono ?_
    rintro e w1 ⟨A2, c2, rfl, own2, b2⟩
    have C1 := hd (C0.out.below b2)
    obtain ⟨c1, f1, g1⟩ := C1.out.at1
    rw [Hr.out] at own2
    simp only [Hr.out, Option.getD_some, Option.isSome_some, Hm.out]
    simp only [Option.getD_some] at own2
    have HQ := hd own2.si
    clear own2 b2
    go_wp2_with fail
    refine (l1Width_b N true _ hw).mono ?_
    rintro e w' ⟨rfl, rfl⟩
    have C3 := hd (C1.out.new (.slice none 0 0) 36 rfl)
    have B3 := hd ((Below.refl w1.heap.size w1).alloc (Nat.le_refl _) (.cells #[.slice none 0 0] 36))
    obtain ⟨gc, hgc⟩ : ∃ gc, gc = w1.heap.size := ⟨_, rfl⟩
    rw [← hgc] at C3 B3 g1
    go_wp2
    rw [← hgc]
    have Hgc := hd hgc
    clear c1 f1 hgc
    obtain ⟨⟨c0, f0, -⟩, ⟨c1, f1, -⟩⟩ := C3.out.at2
    go_loopw [11] (fun i wr => ∃ (k : Nat) (A' : Option Addr) (c' : Nat), k ≤ m ∧ i = .int .i64 k ∧ AllOk q N k ∧ OwnS 9 (gc + 1) wr A' c' ((eng N.toNat q).take k) ∧ Cs w wr [(gc, .slice A' k c'), (w.heap.size, .slice none 0 0)] ∧ Below gc w1 wr)
      (fun i _ => m - (intOf i).toNat)
    case atStart => exact ⟨0, none, 0, by omega, rfl, AllOk.zero _ _, OwnG.nil_ _ _ _ _, C3.out, B3.out⟩
    case round =>
      clear C3 B3 c0 f0 c1 f1 C1 C0
      obtain ⟨k, A', c', hk, rfl, hok, own, cc, bw⟩ := hrel
      have Hok := hd hok
      have Own := hd own
      have C4 := hd cc
      have Bw := hd bw
      clear hok own cc bw
      obtain ⟨⟨c0, f0, h0⟩, ⟨c1, f1, -⟩⟩ := C4.out.at2
      by_cases hlt : k < m
      · have HQr := hd (HQ.out.below (by rw [← Hgc.out]; exact Bw.out))
        obtain ⟨x, b, off, hx, rfl, hbw, hc⟩ := HQr.out.at_ (k := k) (by rw [Hm.out]; exact hlt)
        have Hx := hd hx
        clear hx HQr
        cases hco : colO x N with
        | none =>
          have Hf : Hid (setF p n N = none) := hd (by rw [Hf0.out]; exact setE_fail Hx.out hco)
          have Hco := hd hco
          clear hco
          go_wp2_with fail
          refine (sColumnOf_any x N _).mono ?_
          rintro e w4 ⟨rfl, b4⟩
          have C5 := hd (C4.out.below b4)
          simp only [Hco.out, Option.getD_none, Option.isSome_none]
          clear c0 f0 c1 f1 b4 hc
          obtain ⟨⟨c0, f0, -⟩, ⟨c1, f1, -⟩⟩ := C5.out.at2
          go_wp2
          exact bodyPost_ret (v := .tuple #[.agg #[.slice none 0 0], .bool false]) (by simp [results, Try.results50, c1, go_sem]) rfl (RetEO.none_ Hf.out (C5.out.done (by omega) _))
        | some s =>
          obtain ⟨rfl, -, -, -⟩ := colO_is hco
          have Hco := hd hco
          clear hco
          have Hnx := hd (Hok.out.succ Hx.out Hco.out)
          have Htk : Hid (((eng N.toNat q).take k).length = k) := hd (by rw [List.length_take, eng_length, Hm.out]; omega)
          have HS := hd (eng_take_succ (W := N.toNat) Hx.out)
          go_wp2_with fail
          refine (sColumnOf_any x N _).mono ?_
          rintro e w4 ⟨rfl, b4⟩
          simp only [Hco.out, Option.getD_some, Option.isSome_some]
          have Own4 := hd (Own.out.below b4)
          have C5 := hd (C4.out.below b4)
          have hgr : gc ≤ wr.heap.size := by omega
          have Bw4 := hd (Bw.out.trans (b4.mono hgr))
          have hgr4 : gc + 1 ≤ w4.heap.size := by have := b4.size; omega
          clear c0 f0 c1 f1 b4 hc h0
          obtain ⟨⟨c0, f0, -⟩, ⟨c1, f1, -⟩⟩ := C5.out.at2
          go_wp2_with (at_builtin; refine wpList_appG (f := Value.string) rfl _ _ 30 9 rfl (gc + 1) i0 (.string ByteArray.empty) 16 Try.underlying30 hi hz0 hz1 hz2 rfl (by decide) k A' c' ((eng N.toNat q).take k) w4.heap.size (showC N.toNat x) rfl rfl rfl Htk.out (new_cell _ _ _) (Own4.out.alloc _) (by omega) (by simp; omega) ?_; intro A5 c5 w5 own5 gr5 b5 hz5; have C6 := hd (((C5.out.below ((Below.refl w4.heap.size w4).alloc (Nat.le_refl _) (.cells #[.string (showC N.toNat x)] 9))).lowB b5 (by simp; omega) (by omega))); have Own5 := hd own5; have Bw5 := hd ((Bw4.out.alloc (by omega) (.cells #[.string (showC N.toNat x)] 9)).trans (b5.mono (by omega))); clear own5 gr5 b5 c0 f0 c1 f1; obtain ⟨⟨c0, f0, -⟩, ⟨c1, f1, -⟩⟩ := C6.out.at2)
          have C7 := hd (C6.out.put (by simp; omega) (.slice A5 (k + 1) c5))
          have Own7 := hd (Own5.out.keep_lo (grown_set w5 ⟨gc, 0, none⟩ (.slice A5 (k + 1) c5)) (fun r hr => by simp at hr; omega))
          have Bw7 := hd (Bw5.out.setCell (p := ⟨gc, 0, none⟩) (Nat.le_refl gc) (.slice A5 (k + 1) c5))
          go_roundw
          case rel => exact ⟨k + 1, A5, c5, by omega, by go_num, Hnx.out, by rw [HS.out]; exact Own7.out, C7.out, Bw7.out⟩
          case measure => simp [intOf] <;> omega
      · obtain rfl : k = m := by omega
        have Hel : Hid ((eng N.toNat q).length = k) := hd (by rw [eng_length, Hm.out])
        have Hf : Hid (setF p n N = some (eng N.toNat q)) := hd (by rw [Hf0.out]; exact setE_all (by rw [Hm.out]; exact hq1) (by rw [Hm.out]; exact Hok.out))
        have Hxe : Hid ((eng N.toNat q).take k = eng N.toNat q) := hd (List.take_of_length_le (by rw [Hel.out]; omega))
        rw [Hxe.out] at Own
        have Ow := hd ((Own.out.keep_lo (grown_set wr ⟨w.heap.size, 0, none⟩ (.slice A' k c')) (fun r hr => by simp at hr; omega)).low (show w.heap.size ≤ gc + 1 by omega))
        go_wp2
        exact bodyPost_ret (v := .tuple #[.agg #[.slice A' k c'], .bool true]) (by simp [results, Try.results50, c1, go_sem]) rfl (RetEO.some_ Hf.out Ow.out Hel.out.symm (C4.out.done (by omega) _))

theorem setF_length {p : List Int} {n N : Int} {z : List ByteArray} (h : (setF p n N).getD [] = z) : z.length ≤ 1048576 := by
  subst h
  cases hr : shiftP p n with
  | none => rw [setF_none hr]; simp
  | some q =>
    rw [setF_some hr, setE]
    split
    · have := (validP_iff.1 (shiftP_some hr).2.1).2.1
      simp only [Option.getD_some, eng_length]
      omega
    · simp
theorem SetUp_z (N1 N2 : Int) (A : Option Addr) (c n : Nat) (p : List Int) (z : List ByteArray) (ok : Bool) (w : World) (hn : p.length = n) (h : SG (Value.int .i64) w A p) (hc : n ≤ c) (hz : (setF p N1 N2).getD [] = z ∧ (setF p N1 N2).isSome = ok) :
    Calls Try.prog 49 #[.slice A n c, .int .i64 N1, .int .i64 N2] w fun e w' => RetEB 9 w.heap.size w z ok e w' := by
  obtain ⟨rfl, rfl⟩ := hz
  subst hn
  exact SetUp_any A c p N1 N2 w h hc
theorem sSetUp_z (N1 N2 : Int) (A : Option Addr) (c n : Nat) (p : List Int) (z : List ByteArray) (ok : Bool) (w : World) (hn : p.length = n) (h : SG (Value.int .i64) w A p) (_hc : n ≤ c) (hz : (setF p N1 N2).getD [] = z ∧ (setF p N1 N2).isSome = ok) :
    Calls Try.prog 50 #[.slice A n c, .int .i64 N1, .int .i64 N2] w fun e w' => RetEB 9 w.heap.size w z ok e w' := by
  obtain ⟨rfl, rfl⟩ := hz
  subst hn
  exact sSetUp_any A c p N1 N2 w h

end Go.Proofs.Ytkmblobfamhoiaa
