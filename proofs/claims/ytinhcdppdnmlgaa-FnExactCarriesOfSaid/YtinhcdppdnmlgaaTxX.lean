/- Carries: marks, one round, all rounds, on both sides. -/
import Derived.Test.YtinhcdppdnmlgaaTxW
import Derived.Test.YtinhcdppdnmlgaaTxA
namespace Go.Proofs.Ytinhcdppdnmlgaa
open Go.RowKit
set_option maxRecDepth 4000

theorem dstr_byte {w : List Nat} {W : ByteArray} (hW : dstr w = W) (h1 : Le 1 w) (k : Nat) (h : k < W.size) : (((W[k]).toNat : Int) = 48 ∧ w[k]? = some 0) ∨ (((W[k]).toNat : Int) = 49 ∧ w[k]? = some 1) := by
  subst hW
  have hl : k < w.length := by rw [dstr_size] at h; exact h
  have hx : w[k]? = some w[k] := List.getElem?_eq_getElem hl
  have h2 := h1 w[k] (List.getElem_mem _)
  have h3 := dstr_at hx (by omega) h
  rcases Nat.eq_zero_or_pos w[k] with h4 | h4
  · left; rw [h4] at h3 hx; exact ⟨by omega, hx⟩
  · right
    have h5 : w[k] = 1 := by omega
    rw [h5] at h3 hx; exact ⟨by omega, hx⟩

set_option maxHeartbeats 1600000 in
theorem marksFit_d (c m : List Nat) (C M : ByteArray) (w : World) (hC : dstr c = C) (hM : dstr m = M) (h1 : 1 ≤ c.length) (h12 : c.length ≤ 12) (hm : m.length = c.length) (dc : Le 9 c) (dm : Le 1 m) :
    Calls Try.prog 38 #[.string C, .string M] w fun e w' => e = .returned (.bool true) ∧ w = w' := by
  have hcv : colV C = true := by rw [← hC]; exact colV_dstr h1 h12 dc
  have hCs : C.size = c.length := by rw [← hC, dstr_size]
  have hMs : M.size = c.length := by rw [← hM, dstr_size, hm]
  have Hb := hd (fun k h => dstr_byte hM dm k h)
  have HV := hd (fun w => (ColumnValid_any C w (by omega)).mono fun _ _ h => h)
  rw [hcv] at HV
  have hne : ((M.size : Int) != C.size) = false := by rw [hCs, hMs]; simp
  have hm12 : M.size ≤ 12 := by omega
  clear hC hM dm dc hm hcv hCs hMs h1 h12
  go_enter Try.func38, Try.ntmps38
  go_wp2_with fail
  refine (HV.out _).mono ?_
  rintro e w' ⟨rfl, rfl⟩
  go_wp2
  go_loop [18] (fun i => ∃ k : Nat, k ≤ M.size ∧ i = .int .i64 k) (fun i => M.size - (intOf i).toNat)
  case atStart => exact ⟨0, by omega, rfl⟩
  case round =>
    obtain ⟨k, hk, rfl⟩ := hrel
    by_cases hlt : k < M.size
    · have e1 : (k : Int) < M.size := by omega
      have e3 : (0 : Int) ≤ k := by omega
      rcases Hb.out k hlt with ⟨hb, -⟩ | ⟨hb, -⟩
      · have t1 : (((M[k]).toNat : Int) != 48) = false := by rw [hb]; rfl
        clear hb
        go_wp2
        go_round
        case rel => exact ⟨k + 1, by omega, by go_num⟩
        case measure => simp [intOf] <;> omega
      · have t1 : (((M[k]).toNat : Int) != 48) = true := by rw [hb]; rfl
        have t2 : (((M[k]).toNat : Int) != 49) = false := by rw [hb]; rfl
        clear hb
        go_wp2
        go_round
        case rel => exact ⟨k + 1, by omega, by go_num⟩
        case measure => simp [intOf] <;> omega
    · have e1 : ¬ (k : Int) < M.size := by omega
      go_wp2
      go_ret
      exact ⟨rfl, rfl⟩

set_option maxHeartbeats 1600000 in
theorem l1Flags_d (c m : List Nat) (C M : ByteArray) (w : World) (hC : dstr c = C) (hM : dstr m = M) (h1 : 1 ≤ c.length) (h12 : c.length ≤ 12) (hm : m.length = c.length) (dc : Le 9 c) (dm : Le 1 m) :
    Calls Try.prog 34 #[.string C, .string M] w fun e w' => e = .returned (.bool true) ∧ w = w' := by
  have hcv : colV C = true := by rw [← hC]; exact colV_dstr h1 h12 dc
  have hCs : C.size = c.length := by rw [← hC, dstr_size]
  have hMs : M.size = c.length := by rw [← hM, dstr_size, hm]
  have Hb := hd (fun k h => dstr_byte hM dm k h)
  have HV := hd (fun w => (sColV_q C true w (by omega) hcv).mono fun _ _ ⟨h1, h2⟩ => (⟨h1, h2.symm⟩ : _ ∧ w = _))
  have hne : ((C.size : Int) == M.size) = true := by rw [hCs, hMs]; simp
  have hm12 : M.size ≤ 12 := by omega
  clear hC hM dm dc hm hcv hCs hMs h1 h12
  go_enter Try.func34, Try.ntmps34
  go_wp2
  go_loop [5] (fun i => ∃ k : Nat, k ≤ M.size ∧ i = .int .i64 k) (fun i => M.size - (intOf i).toNat)
  case atStart => exact ⟨0, by omega, rfl⟩
  case round =>
    obtain ⟨k, hk, rfl⟩ := hrel
    by_cases hlt : k < M.size
    · have e1 : (k : Int) < M.size := by omega
      have e3 : (0 : Int) ≤ k := by omega
      rcases Hb.out k hlt with ⟨hb, -⟩ | ⟨hb, -⟩
      · have t1 : (((M[k]).toNat : Int) != 48) = false := by rw [hb]; rfl
        clear hb
        go_wp2
        go_round
        case rel => exact ⟨k + 1, by omega, by go_num⟩
        case measure => simp [intOf] <;> omega
      · have t1 : (((M[k]).toNat : Int) != 48) = true := by rw [hb]; rfl
        have t2 : (((M[k]).toNat : Int) != 49) = false := by rw [hb]; rfl
        clear hb
        go_wp2
        go_round
        case rel => exact ⟨k + 1, by omega, by go_num⟩
        case measure => simp [intOf] <;> omega
    · have e1 : ¬ (k : Int) < M.size := by omega
      go_wp2_with fail
      refine (HV.out _).mono ?_
      rintro e w' ⟨rfl, rfl⟩
      go_wp2
      go_ret
      exact ⟨rfl, rfl⟩

theorem up_str {m : List Nat} {M : ByteArray} (hM : dstr m = M) : M.extract 1 M.size ++ ⟨#[48]⟩ = dstr (upL m) := by
  subst hM
  have h1 : ((dstr m).extract 1 (dstr m).size).data.toList = (dstr m).data.toList.drop 1 := by
    rw [Lib.extract_data, List.take_of_length_le]
    rw [List.length_drop, str_len]; omega
  rw [← txt_data ((dstr m).extract 1 (dstr m).size), h1, show (⟨#[48]⟩ : ByteArray) = txt [48] from rfl, txt_app, dstr_data, show dstr (upL m) = txt ((upL m).map fun d => UInt8.ofNat (48 + d)) from rfl, upL, List.map_append, List.map_drop]
  rfl

theorem l1Up_d (m : List Nat) (M U : ByteArray) (w : World) (hM : dstr m = M) (hU : dstr (upL m) = U) (h1 : 1 ≤ m.length) (h12 : m.length ≤ 12) :
    Calls Try.prog 44 #[.string M] w fun e w' => e = .returned (.string U) ∧ w = w' := by
  have hs := up_str hM
  rw [hU] at hs
  have hMs : 1 ≤ M.size := by rw [← hM, dstr_size]; exact h1
  have hM12 : M.size ≤ 12 := by rw [← hM, dstr_size]; exact h12
  obtain ⟨D, hD⟩ : ∃ D, M.extract 1 M.size = D := ⟨_, rfl⟩
  have hDz : D.size ≤ 12 := by rw [← hD, ByteArray.size_extract]; omega
  rw [hD] at hs
  have Hs := hd hs
  have e1 : (1 : Int) ≤ M.size := by omega
  clear hs hM hU
  go_enter Try.func44, Try.ntmps44
  go_wp2
  go_ret
  exact ⟨ret_str Hs.out, rfl⟩

/-- Two strings and a bool. -/
def Ret2 (w : World) (s t : ByteArray) (e : Ending) (w' : World) : Prop := e = .returned (.tuple #[.string s, .string t, .bool true]) ∧ Below w.heap.size w w'

set_option maxHeartbeats 1600000 in
theorem sCarryOnce_d (c m : List Nat) (C M C2 M2 : ByteArray) (w : World) (hC : dstr c = C) (hM : dstr m = M) (hC2 : dstr (turnL c (upL m)) = C2) (hM2 : dstr (warnL c (upL m)) = M2) (h1 : 1 ≤ c.length) (h12 : c.length ≤ 12) (hm : m.length = c.length) (dc : Le 9 c) (dm : Le 1 m) :
    Calls Try.prog 36 #[.string C, .string M] w fun e w' => Ret2 w C2 M2 e w' := by
  obtain ⟨U, hU⟩ : ∃ U, dstr (upL m) = U := ⟨_, rfl⟩
  have hul := upL_length (w := m) (by omega)
  have HF := hd (fun w => l1Flags_d c m C M w hC hM h1 h12 hm dc dm)
  have HU := hd (fun w => l1Up_d m M U w hM hU (by omega) (by omega))
  have HT := hd (fun w => sTurnWheels_d c (upL m) C U C2 w hC hU hC2 h1 h12 (by omega) dc ((upL_le dm).mono (by omega)))
  have HW := hd (fun w => sWarnedWheels_d c (upL m) C U M2 w hC hU hM2 h1 h12 (by omega) dc ((upL_le dm).mono (by omega)))
  clear hC hM hC2 hM2 hU hm dc dm hul
  go_enter Try.func36, Try.ntmps36
  go_wp2_with fail
  refine (HF.out _).mono ?_
  rintro e w' ⟨rfl, rfl⟩
  go_wp2_with fail
  refine (HU.out _).mono ?_
  rintro e w' ⟨rfl, rfl⟩
  go_wp2_with fail
  refine (HT.out _).mono ?_
  rintro e w1 ⟨rfl, b1⟩
  go_wp2_with fail
  refine (HU.out _).mono ?_
  rintro e w' ⟨rfl, rfl⟩
  go_wp2_with fail
  refine (HW.out _).mono ?_
  rintro e w2 ⟨rfl, b2⟩
  have k2 := b1.trans (b2.mono b1.size)
  clear b1 b2
  go_wp2
  exact bodyPost_ret (v := .tuple #[.string C2, .string M2, .bool true]) (by simp [results, Try.results36, go_sem]) rfl ⟨rfl, k2⟩

/-- The rounds of a carry. -/
def CarR (W T : Nat) (w : World) (c m t : Value) (wr : World) : Prop := ∃ (k : Nat) (cs ms : List Nat), c = .string (dstr cs) ∧ m = .string (dstr ms) ∧ t = .int .i64 k ∧ CarS W T k cs ms ∧ Below w.heap.size w wr
def Ret3 (w : World) (T : Nat) (e : Ending) (w' : World) : Prop := ∃ s : ByteArray, e = .returned (.tuple #[.string s, .int .i64 T, .bool true]) ∧ Below w.heap.size w w'

set_option maxHeartbeats 1600000 in
theorem sCarryAll_d (c m : List Nat) (C M : ByteArray) (W T : Nat) (w : World) (hC : dstr c = C) (hM : dstr m = M) (hc : c.length = W) (h1 : 1 ≤ W) (h12 : W ≤ 12) (hm : m.length = W) (dc : Le 9 c) (dm : Le 1 m) (hT : timesN W c m = T) :
    Calls Try.prog 24 #[.string C, .string M] w fun e w' => Ret3 w T e w' := by
  have HF := hd (fun w => l1Flags_d c m C M w hC hM (by omega) (by omega) (by omega) dc dm)
  have H0 : Hid (CarR W T w (.string C) (.string M) (.int .i64 0) w) := hd ⟨0, c, m, by rw [hC], by rw [hM], rfl, by rw [← hT]; exact CarS.start hc hm dc dm, Below.refl _ _⟩
  clear hC hM hm hc dc dm hT
  go_enter Try.func24, Try.ntmps24
  go_wp2_with fail
  refine (HF.out _).mono ?_
  rintro e w' ⟨rfl, rfl⟩
  go_wp2
  go_loopw [0, 1, 7] (fun c m t wr => CarR W T w c m t wr) (fun _ _ t _ => W - (intOf t).toNat)
  case atStart => exact H0.out
  case round =>
    clear H0
    obtain ⟨k, cs, ms, rfl, rfl, rfl, hs, bw⟩ := hrel
    have Hs := hd hs
    have Bw := hd bw
    obtain ⟨hcl, hml, dc, dm, hk, -, -⟩ := hs
    obtain ⟨X, hX⟩ : ∃ X, dstr ms = X := ⟨_, rfl⟩
    obtain ⟨Y, hY⟩ : ∃ Y, dstr cs = Y := ⟨_, rfl⟩
    have hv := dval_dstr ms (dm.mono (by omega))
    have HL := hd (fun w => l1Value_yes X w (by rw [← hX]; exact colV_dstr (by omega) (by omega) (dm.mono (by omega))))
    obtain ⟨v, hv2⟩ : ∃ v, cval X = v := ⟨_, rfl⟩
    have hv3 : dval (dstr ms).data.toList = v := by rw [hX]; exact hv2
    rw [hv3] at hv
    obtain ⟨hv0, hv1⟩ := hv
    rw [hv2] at HL
    cases hn : noMark ms
    · rw [hn] at hv1
      have hvp : 0 < v := by simpa using hv1
      obtain ⟨C2, hC2⟩ : ∃ C2, dstr (turnL cs (upL ms)) = C2 := ⟨_, rfl⟩
      obtain ⟨M2, hM2⟩ : ∃ M2, dstr (warnL cs (upL ms)) = M2 := ⟨_, rfl⟩
      have HO := hd (fun w => sCarryOnce_d cs ms Y X C2 M2 w hY hX hC2 hM2 (by omega) (by omega) (by omega) dc dm)
      have Hn := hd (Hs.out.next hn)
      have hkW := Hs.out.lt hn
      have HC2 := hd hC2
      have HM2 := hd hM2
      rw [hX, hY]
      clear hv1 hn hcl hml dc dm hv3 hX hY hC2 hM2 hv2 bw
      go_wp2_with fail
      refine (HL.out _).mono ?_
      rintro e w' ⟨rfl, rfl⟩
      go_wp2_with fail
      refine (HO.out _).mono ?_
      rintro e w2 ⟨rfl, b2⟩
      have Bw2 := hd (Bw.out.trans (b2.mono Bw.out.size))
      clear b2
      go_wp2
      go_roundw
      case rel => exact ⟨k + 1, _, _, by rw [HC2.out], by rw [HM2.out], by go_num, Hn.out, Bw2.out⟩
      case measure => simp [intOf] <;> omega
    · rw [hn] at hv1
      have hvp : ¬ 0 < v := by simpa using hv1
      have HT : Hid (k = T) := hd (Hs.out.end_ hn)
      rw [hX, hY]
      clear hv1 hn hcl hml dc dm hv3 hX hY hv2 bw
      go_wp2_with fail
      refine (HL.out _).mono ?_
      rintro e w' ⟨rfl, rfl⟩
      go_wp2
      rw [HT.out]
      exact bodyPost_ret (v := .tuple #[.string Y, .int .i64 T, .bool true]) (by simp [results, Try.results24, go_sem]) rfl ⟨Y, rfl, Bw.out⟩

end Go.Proofs.Ytinhcdppdnmlgaa
