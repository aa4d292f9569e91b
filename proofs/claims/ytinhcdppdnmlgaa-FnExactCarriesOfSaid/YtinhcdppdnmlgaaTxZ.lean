/- How often carries follow: all rounds of the program, CarryTimes and CarriesOf of both sides. -/
import Derived.Test.YtinhcdppdnmlgaaTxY
import Derived.Deep.RegionHeld3
namespace Go.Proofs.Ytinhcdppdnmlgaa
open Go.RowKit
set_option maxRecDepth 4000

theorem Clone_s (s : ByteArray) (w : World) (hs : s.size ≤ 1048576) :
    Calls Try.prog 41 #[.string s] w fun e w' => e = .returned (.string s) ∧ Below w.heap.size w w' := by
  go_enter Try.func41, Try.ntmps41
  go_wp2_with fail
  refine (Try.stringslite_Clone s _ (by omega)).mono ?_
  rintro e w1 ⟨rfl, b1⟩
  go_wp2
  go_ret
  exact ⟨rfl, b1⟩
theorem Contains_d (ms : List Nat) (X : ByteArray) (b : Bool) (w : World) (hX : dstr ms = X) (h1 : Le 1 ms) (hb : noMark ms = !b) :
    Calls Try.prog 39 #[.string X, .string ⟨#[49]⟩] w fun e w' => e = .returned (.bool b) ∧ w = w' := by
  have hm := mark_byte h1
  rw [hX, hb, Bool.not_not] at hm
  have := (Try.strings_Contains_one X 49 w).mono (fun _ _ ⟨a, b⟩ => (⟨a, b.symm⟩ : _ ∧ w = _))
  rw [hm] at this
  exact this

set_option maxHeartbeats 1600000 in
theorem CarryAll_d (c m : List Nat) (C M : ByteArray) (W T : Nat) (w : World) (hC : dstr c = C) (hM : dstr m = M) (hc : c.length = W) (h1 : 1 ≤ W) (h12 : W ≤ 12) (hm : m.length = W) (dc : Le 9 c) (dm : Le 1 m) (hT : timesN W c m = T) :
    Calls Try.prog 28 #[.string C, .string M] w fun e w' => Ret3 w T e w' := by
  have HF := hd (fun w => marksFit_d c m C M w hC hM (by omega) (by omega) (by omega) dc dm)
  have H0 : Hid (CarR W T w (.string C) (.string M) (.int .i64 0) w) := hd ⟨0, c, m, by rw [hC], by rw [hM], rfl, by rw [← hT]; exact CarS.start hc hm dc dm, Below.refl _ _⟩
  clear hC hM hm hc dc dm hT
  go_enter Try.func28, Try.ntmps28
  go_wp2_with fail
  refine (HF.out _).mono ?_
  rintro e w' ⟨rfl, rfl⟩
  go_wp2
  go_loopw [0, 1, 7] (fun c m t wr => CarR W T w c m t wr) (fun _ _ t _ => W - (intOf t).toNat)
  case atStart => exact H0.out
  case round =>
    clear H0
    obtain ⟨k, cs, ms, rfl, rfl, rfl, hs, bw⟩ := hrel
    have Hs := hd hs
    have Bw := hd bw
    obtain ⟨hcl, hml, dc, dm, hk, -, -⟩ := hs
    obtain ⟨X, hX⟩ : ∃ X, dstr ms = X := ⟨_, rfl⟩
    obtain ⟨Y, hY⟩ : ∃ Y, dstr cs = Y := ⟨_, rfl⟩
    have hYs : Y.size ≤ 1048576 := by rw [← hY, dstr_size]; omega
    cases hn : noMark ms
    · obtain ⟨C2, hC2⟩ : ∃ C2, dstr (turnL cs (upL ms)) = C2 := ⟨_, rfl⟩
      obtain ⟨M2, hM2⟩ : ∃ M2, dstr (warnL cs (upL ms)) = M2 := ⟨_, rfl⟩
      have HL := hd (fun w => Contains_d ms X true w hX dm (by rw [hn]; rfl))
      have HO := hd (fun w => CarryOnce_d cs ms Y X C2 M2 w hY hX hC2 hM2 (by omega) (by omega) (by omega) dc dm)
      have Hn := hd (Hs.out.next hn)
      have hkW := Hs.out.lt hn
      have HC2 := hd hC2
      have HM2 := hd hM2
      rw [hX, hY]
      clear hn hcl hml dc dm hX hY hC2 hM2 bw
      go_wp2_with fail
      refine (HL.out _).mono ?_
      rintro e w' ⟨rfl, rfl⟩
      go_wp2_with fail
      refine (HO.out _).mono ?_
      rintro e w2 ⟨rfl, b2⟩
      have Bw2 := hd (Bw.out.trans (b2.mono Bw.out.size))
      clear b2
      go_wp2
      go_roundw
      case rel => exact ⟨k + 1, _, _, by rw [HC2.out], by rw [HM2.out], by go_num, Hn.out, Bw2.out⟩
      case measure => simp [intOf] <;> omega
    · have HT : Hid (k = T) := hd (Hs.out.end_ hn)
      have HL := hd (fun w => Contains_d ms X false w hX dm (by rw [hn]; rfl))
      rw [hX, hY]
      clear hn hcl hml dc dm hX hY bw
      go_wp2_with fail
      refine (HL.out _).mono ?_
      rintro e w' ⟨rfl, rfl⟩
      go_wp2_with fail
      refine (Clone_s Y _ hYs).mono ?_
      rintro e w2 ⟨rfl, b2⟩
      have Bw2 := hd (Bw.out.trans (b2.mono Bw.out.size))
      clear b2
      go_wp2
      rw [HT.out]
      exact bodyPost_ret (v := .tuple #[.string Y, .int .i64 T, .bool true]) (by simp [results, Try.results28, go_sem]) rfl ⟨Y, rfl, Bw2.out⟩

/-- How often carries follow in the sum of two columns. -/
def tmS (a b : ByteArray) : Nat := timesN a.size (turnL (digs a) (digs b)) (warnL (digs a) (digs b))
theorem tmS_le (a b : ByteArray) (h : a.size ≤ 12) : tmS a b ≤ 12 := Nat.le_trans (timesN_le _ _ _) h

set_option maxHeartbeats 1600000 in
theorem sCarryTimes_d (a b : ByteArray) (T : Nat) (w : World) (ha : colV a = true) (hb : colV b = true) (hs : a.size = b.size) (hT : tmS a b = T) :
    Calls Try.prog 14 #[.string a, .string b] w fun e w' => e = .returned (.int .i64 T) ∧ Below w.heap.size w w' := by
  obtain ⟨a1, a2, a9⟩ := dstr_digs ha
  obtain ⟨b1, b2, b9⟩ := dstr_digs hb
  obtain ⟨⟨h1, h12⟩, -⟩ := colV_iff.1 ha
  obtain ⟨C, hC⟩ : ∃ C, dstr (turnL (digs a) (digs b)) = C := ⟨_, rfl⟩
  obtain ⟨M, hM⟩ : ∃ M, dstr (warnL (digs a) (digs b)) = M := ⟨_, rfl⟩
  have ht := turnL_length (a := digs a) (b := digs b) (by omega)
  have hw := warnL_length (a := digs a) (b := digs b) (by omega)
  have HT1 := hd (fun w => sTurnWheels_d (digs a) (digs b) a b C w a1 b1 hC (by omega) (by omega) (by omega) a9 b9)
  have HW1 := hd (fun w => sWarnedWheels_d (digs a) (digs b) a b M w a1 b1 hM (by omega) (by omega) (by omega) a9 b9)
  have HA := hd (fun w => sCarryAll_d (turnL (digs a) (digs b)) (warnL (digs a) (digs b)) C M a.size T w hC hM (by omega) h1 h12 (by omega) (turnL_le _ _) (warnL_le a9 b9) hT)
  clear ha hb hs hT a1 a2 a9 b1 b2 b9 h1 h12 hC hM ht hw
  go_enter Try.func14, Try.ntmps14
  go_wp2_with fail
  refine (HT1.out _).mono ?_
  rintro e w1 ⟨rfl, k1⟩
  go_wp2_with fail
  refine (HW1.out _).mono ?_
  rintro e w2 ⟨rfl, k2⟩
  go_wp2_with fail
  refine (HA.out _).mono ?_
  rintro e w3 ⟨s, rfl, k3⟩
  have k4 := (k1.trans (k2.mono k1.size)).trans (k3.mono (k1.trans (k2.mono k1.size)).size)
  clear k1 k2 k3
  go_wp2
  go_ret
  exact ⟨rfl, k4⟩

set_option maxHeartbeats 1600000 in
theorem CarryTimes_d (a b : ByteArray) (T : Nat) (w : World) (ha : colV a = true) (hb : colV b = true) (hs : a.size = b.size) (hT : tmS a b = T) :
    Calls Try.prog 17 #[.string a, .string b] w fun e w' => e = .returned (.int .i64 T) ∧ Below w.heap.size w w' := by
  obtain ⟨a1, a2, a9⟩ := dstr_digs ha
  obtain ⟨b1, b2, b9⟩ := dstr_digs hb
  obtain ⟨⟨h1, h12⟩, -⟩ := colV_iff.1 ha
  obtain ⟨C, hC⟩ : ∃ C, dstr (turnL (digs a) (digs b)) = C := ⟨_, rfl⟩
  obtain ⟨M, hM⟩ : ∃ M, dstr (warnL (digs a) (digs b)) = M := ⟨_, rfl⟩
  have ht := turnL_length (a := digs a) (b := digs b) (by omega)
  have hw := warnL_length (a := digs a) (b := digs b) (by omega)
  have HT1 := hd (fun w => TurnWheels_d (digs a) (digs b) a b C w a1 b1 hC (by omega) (by omega) (by omega) a9 b9)
  have HW1 := hd (fun w => WarnedWheels_d (digs a) (digs b) a b M w a1 b1 hM (by omega) (by omega) (by omega) a9 b9)
  have HA := hd (fun w => CarryAll_d (turnL (digs a) (digs b)) (warnL (digs a) (digs b)) C M a.size T w hC hM (by omega) h1 h12 (by omega) (turnL_le _ _) (warnL_le a9 b9) hT)
  clear ha hb hs hT a1 a2 a9 b1 b2 b9 h1 h12 hC hM ht hw
  go_enter Try.func17, Try.ntmps17
  go_wp2_with fail
  refine (HT1.out _).mono ?_
  rintro e w1 ⟨rfl, k1⟩
  go_wp2_with fail
  refine (HW1.out _).mono ?_
  rintro e w2 ⟨rfl, k2⟩
  go_wp2_with fail
  refine (HA.out _).mono ?_
  rintro e w3 ⟨s, rfl, k3⟩
  have k4 := (k1.trans (k2.mono k1.size)).trans (k3.mono (k1.trans (k2.mono k1.size)).size)
  clear k1 k2 k3
  go_wp2
  go_ret
  exact ⟨rfl, k4⟩

/-- What CarriesOf returns of the first columns. -/
def carN (cs : List ByteArray) : Nat → Nat
  | 0 => 0
  | k + 1 => max (carN cs k) (tmS (cs.getD k ByteArray.empty) (cs.getD (k + 1) ByteArray.empty))
def carV (cs : List ByteArray) : Int := if engV cs = true then (carN cs (cs.length - 1) : Int) else -1
theorem carV_no {cs : List ByteArray} (h : engV cs = false) : carV cs = -1 := by simp [carV, h]
theorem carV_yes {cs : List ByteArray} (h : engV cs = true) : carV cs = (carN cs (cs.length - 1) : Int) := by simp [carV, h]
theorem carN_succ {cs : List ByteArray} {k : Nat} {x y : ByteArray} (hx : cs[k]? = some x) (hy : cs[k + 1]? = some y) : carN cs (k + 1) = max (carN cs k) (tmS x y) := by
  rw [carN, List.getD_eq_getElem?_getD, List.getD_eq_getElem?_getD, hx, hy]; rfl
theorem carN_le {cs : List ByteArray} (h : ∀ c ∈ cs, c.size ≤ 12) (k : Nat) (hk : k ≤ cs.length) : carN cs k ≤ 12 := by
  induction k with
  | zero => exact Nat.zero_le _
  | succ k ih =>
    have h1 := ih (by omega)
    have h2 : tmS (cs.getD k ByteArray.empty) (cs.getD (k + 1) ByteArray.empty) ≤ 12 := tmS_le _ _ (by
      rw [List.getD_eq_getElem?_getD, List.getElem?_eq_getElem (show k < cs.length by omega)]
      exact h _ (List.getElem_mem _))
    rw [carN]; omega

end Go.Proofs.Ytinhcdppdnmlgaa
