/- The reference's number of a text. -/
import Derived.Test.YtinhcdppdnmlgaaDoorTxN
import Derived.Test.YtinhcdppdnmlgaaDoorGrG
namespace Go.Proofs.YtinhcdppdnmlgaaDoor
open Go.RowKit
set_option maxRecDepth 4000

theorem pow17 {k : Nat} (h : k ≤ 17) : ((10 ^ k : Nat) : Int) ≤ 100000000000000000 := by
  have := Nat.pow_le_pow_right (show 1 ≤ 10 by decide) h
  have e : (10 : Nat) ^ 17 = 100000000000000000 := by decide
  omega
/-- A number and a bool are returned; the world is as it was. -/
def RetN (s : ByteArray) (w : World) (e : Ending) (w' : World) : Prop := ∃ v ok, e = .returned (.tuple #[.int .i64 v, .bool ok]) ∧ (Num9 s v ∧ (s.size = 0 → v = 0)) ∧ w = w'
theorem ne_digit {b : UInt8} (h : ((b.toNat : Nat) : Int) ≠ 48) : b ≠ 48 := by rintro rfl; exact h rfl
theorem head_dig {D : ByteArray} {b : UInt8} (h : 0 < D.size) (hb : D[0] = b) : D.data.toList.head? = some b := by
  have := str_at D 0 h
  rw [← List.head?_eq_getElem?] at this
  rw [this, hb]
theorem byte_of {b c : UInt8} (h : ((b.toNat : Nat) : Int) = ((c.toNat : Nat) : Int)) : b = c := UInt8.toNat_inj.1 (by omega)

set_option maxHeartbeats 3200000 in
theorem l9Num_neg (s : ByteArray) (w : World) (hs : s.size ≤ 1048576) (h0 : 0 < s.size) (hb : s[0] = 45) :
    Calls Tryd.prog 25 #[.string s] w fun e w' => RetN s w e w' := by
  have e0 : ((s[0].toNat : Int) == 45) = true := by rw [hb]; rfl
  obtain ⟨D, HD⟩ : ∃ D, Hid (s.extract 1 s.size = D) := ⟨_, hd rfl⟩
  have hsl : s.data.toList = 45 :: D.data.toList := by
    rw [← HD.out, Lib.extract_to_end]
    have h2 := str_at s 0 h0
    cases hl : s.data.toList with
    | nil => rw [hl] at h2; simp at h2
    | cons a r => rw [hl] at h2; simp only [List.getElem?_cons_zero, Option.some.injEq] at h2; rw [h2, hb]; rfl
  have Hn := hd hsl
  have hDz : D.size ≤ 1048576 := by rw [← HD.out, ByteArray.size_extract]; omega
  have HD2 := HD.out
  have hi0 : (0 : Int) < s.size := by omega
  clear hb hsl
  have hDl : Hid (D.data.toList.length = D.size) := hd (str_len D)
  by_cases hD0 : D.size = 0
  · have e1 : ((D.size : Int) == 0) = true := by rw [beq_iff_eq]; omega
    have hD0' := hd hD0
    clear hD0
    have HF : Hid (Num9 s 0) := hd (num9_empty (neg := true) (d := D.data.toList) (fun _ => Hn.out) (fun h => by cases h) (List.eq_nil_of_length_eq_zero (by rw [hDl.out]; exact hD0'.out)) 0)
    go_enter Tryd.func25, Tryd.ntmps25
    go_wp2
    go_ret2
    exact ⟨0, false, rfl, ⟨HF.out, fun _ => rfl⟩, rfl⟩
  have e1 : ((D.size : Int) == 0) = false := by rw [beq_eq_false_iff_ne]; omega
  have hDp : 0 < D.size := by omega
  have hDp' : (0 : Int) < D.size := by omega
  clear hD0
  by_cases hD17 : 17 < D.size
  · have e2 : (17 : Int) < D.size := by omega
    have HF : Hid (Num9 s 0) := hd (num9_long (neg := true) (d := D.data.toList) (fun _ => Hn.out) (fun h => by cases h) (by rw [hDl.out]; exact hD17) 0)
    go_enter Tryd.func25, Tryd.ntmps25
    go_wp2
    go_ret2
    exact ⟨0, false, rfl, ⟨HF.out, fun _ => rfl⟩, rfl⟩
  have e2 : ¬ (17 : Int) < D.size := by omega
  by_cases hz : D[0] = 48
  · have e3 : ((D[0].toNat : Int) == 48) = true := by rw [hz]; rfl
    have Hh := hd (head_dig hDp hz)
    clear hz
    by_cases h1l : 1 < D.size
    · have e4 : (1 : Int) < D.size := by omega
      have HF : Hid (Num9 s 0) := hd (num9_zero (neg := true) (d := D.data.toList) (fun _ => Hn.out) (fun h => by cases h) Hh.out (.inr rfl) 0)
      go_enter Tryd.func25, Tryd.ntmps25
      go_wp2
      go_ret2
      exact ⟨0, false, rfl, ⟨HF.out, fun _ => rfl⟩, rfl⟩
    · have e4 : ¬ (1 : Int) < D.size := by omega
      have HF : Hid (Num9 s 0) := hd (num9_zero (neg := true) (d := D.data.toList) (fun _ => Hn.out) (fun h => by cases h) Hh.out (.inr rfl) 0)
      go_enter Tryd.func25, Tryd.ntmps25
      go_wp2
      go_ret2
      exact ⟨0, false, rfl, ⟨HF.out, fun _ => rfl⟩, rfl⟩
  · have e3 : ((D[0].toNat : Int) == 48) = false := by
      simp only [beq_eq_false_iff_ne, ne_eq]
      intro h2
      exact hz (byte_of h2)
    clear hz
    have Hat := hd (fun k (h : k < D.size) => str_at D k h)
    go_enter Tryd.func25, Tryd.ntmps25
    go_wp2
    go_loop [5, 6] (fun n i => ∃ (k : Nat) (y : Int), k ≤ D.size ∧ i = .int .i64 k ∧ n = .int .i64 y ∧ y = dval (D.data.toList.take k) ∧ (D.data.toList.take k).all isDig = true) (fun _ i => D.size - (intOf i).toNat)
    case atStart => exact ⟨0, 0, by omega, rfl, rfl, by simp [dval], by simp⟩
    case round =>
      obtain ⟨k, y, hk, rfl, rfl, hy, ha⟩ := hrel
      have hyb : 0 ≤ y ∧ y ≤ 100000000000000000 := by
        have h2 := dval_nonneg _ ha
        rw [← hy] at h2
        have h3 := pow17 (k := (D.data.toList.take k).length) (by rw [List.length_take, hDl.out]; omega)
        omega
      have hyc : k < D.size → y ≤ 10000000000000000 := fun hlt => by
        have h2 := dval_nonneg _ ha
        rw [← hy] at h2
        have h3 := Nat.pow_le_pow_right (show 1 ≤ 10 by decide) (show (D.data.toList.take k).length ≤ 16 by rw [List.length_take, hDl.out]; omega)
        have h4 : (10 : Nat) ^ 16 = 10000000000000000 := by decide
        omega
      obtain ⟨hy0, hy1⟩ := hyb
      have Hy := hd hy
      have Ha := hd ha
      clear hy ha
      by_cases hlt : k < D.size
      · have hy2 := hyc hlt
        clear hyc
        have Hx := hd (Hat.out k hlt)
        by_cases hlo : (D[k].toNat : Int) < 48
        · have HF : Hid (Num9 s 0) := hd (num9_bad (neg := true) (d := D.data.toList) (fun _ => Hn.out) (fun h => by cases h) Hx.out (by simp only [isDig]; simp; omega) 0)
          go_wp2
          go_ret2
          exact ⟨0, false, rfl, ⟨HF.out, fun _ => rfl⟩, rfl⟩
        by_cases hhi : 57 < (D[k].toNat : Int)
        · have HF : Hid (Num9 s 0) := hd (num9_bad (neg := true) (d := D.data.toList) (fun _ => Hn.out) (fun h => by cases h) Hx.out (by simp only [isDig]; simp; omega) 0)
          go_wp2
          go_ret2
          exact ⟨0, false, rfl, ⟨HF.out, fun _ => rfl⟩, rfl⟩
        have HS := hd (dval_take D k hlt)
        have HT : Hid (((D.data.toList.take (k + 1)).all isDig) = true) := hd (all_take_succ isDig _ k _ Hx.out Ha.out (by simp only [isDig]; simp; omega))
        have hq1 : (48 : Int) ≤ D[k].toNat := by omega
        have hq2 : (D[k].toNat : Int) ≤ 57 := by omega
        have e5 : IntKind.u8.wrap ((D[k].toNat : Int) - 48) = (D[k].toNat : Int) - 48 := by
          simp only [IntKind.wrap, IntKind.bits, IntKind.signed]
          simp
          omega
        go_wp2
        go_round
        case rel => exact ⟨k + 1, _, by omega, by go_num, rfl, by rw [HS.out, ← Hy.out]; omega, HT.out⟩
        case measure => simp [intOf] <;> omega
      · have HF : Hid (Num9 s (-y)) := hd (num9_good (neg := true) (d := D.data.toList) (fun _ => Hn.out) (fun h => by cases h) (by rw [Hy.out, List.take_of_length_le (by rw [hDl.out]; omega)]; rfl))
        clear hyc
        go_wp2
        go_ret2
        exact ⟨-y, true, rfl, ⟨HF.out, fun h => by omega⟩, rfl⟩

set_option maxHeartbeats 3200000 in
theorem l9Num_pos (s : ByteArray) (w : World) (hs : s.size ≤ 1048576) (h0 : 0 < s.size) (hb : s[0] ≠ 45) :
    Calls Tryd.prog 25 #[.string s] w fun e w' => RetN s w e w' := by
  have e0 : ((s[0].toNat : Int) == 45) = false := by
    simp only [beq_eq_false_iff_ne, ne_eq]
    intro h2
    exact hb (byte_of h2)
  have Hn := hd (show s.data.toList.head? ≠ some 45 by rw [head_dig h0 rfl]; simpa using hb)
  have hDz := hs
  have hi0 : (0 : Int) < s.size := by omega
  clear hb
  have hDl : Hid (s.data.toList.length = s.size) := hd (str_len s)
  have hD0 : ¬ s.size = 0 := by omega
  have e1 : ((s.size : Int) == 0) = false := by rw [beq_eq_false_iff_ne]; omega
  have hDp : 0 < s.size := by omega
  have hDp' : (0 : Int) < s.size := by omega
  clear hD0
  by_cases hD17 : 17 < s.size
  · have e2 : (17 : Int) < s.size := by omega
    have HF : Hid (Num9 s 0) := hd (num9_long (neg := false) (d := s.data.toList) (fun h => by cases h) (fun _ => ⟨rfl, Hn.out⟩) (by rw [hDl.out]; exact hD17) 0)
    go_enter Tryd.func25, Tryd.ntmps25
    go_wp2
    go_ret2
    exact ⟨0, false, rfl, ⟨HF.out, fun _ => rfl⟩, rfl⟩
  have e2 : ¬ (17 : Int) < s.size := by omega
  by_cases hz : s[0] = 48
  · have e3 : ((s[0].toNat : Int) == 48) = true := by rw [hz]; rfl
    have Hh := hd (head_dig hDp hz)
    clear hz
    by_cases h1l : 1 < s.size
    · have e4 : (1 : Int) < s.size := by omega
      have HF : Hid (Num9 s 0) := hd (num9_zero (neg := false) (d := s.data.toList) (fun h => by cases h) (fun _ => ⟨rfl, Hn.out⟩) Hh.out (.inl (by rw [hDl.out]; exact h1l)) 0)
      go_enter Tryd.func25, Tryd.ntmps25
      go_wp2
      go_ret2
      exact ⟨0, false, rfl, ⟨HF.out, fun _ => rfl⟩, rfl⟩
    · have e4 : ¬ (1 : Int) < s.size := by omega
      have Hat := hd (fun k (h : k < s.size) => str_at s k h)
      go_enter Tryd.func25, Tryd.ntmps25
      go_wp2
      go_loop [5, 6] (fun n i => ∃ (k : Nat) (y : Int), k ≤ s.size ∧ i = .int .i64 k ∧ n = .int .i64 y ∧ y = dval (s.data.toList.take k) ∧ (s.data.toList.take k).all isDig = true) (fun _ i => s.size - (intOf i).toNat)
      case atStart => exact ⟨0, 0, by omega, rfl, rfl, by simp [dval], by simp⟩
      case round =>
        obtain ⟨k, y, hk, rfl, rfl, hy, ha⟩ := hrel
        have hyb : 0 ≤ y ∧ y ≤ 100000000000000000 := by
          have h2 := dval_nonneg _ ha
          rw [← hy] at h2
          have h3 := pow17 (k := (s.data.toList.take k).length) (by rw [List.length_take, hDl.out]; omega)
          omega
        have hyc : k < s.size → y ≤ 10000000000000000 := fun hlt => by
          have h2 := dval_nonneg _ ha
          rw [← hy] at h2
          have h3 := Nat.pow_le_pow_right (show 1 ≤ 10 by decide) (show (s.data.toList.take k).length ≤ 16 by rw [List.length_take, hDl.out]; omega)
          have h4 : (10 : Nat) ^ 16 = 10000000000000000 := by decide
          omega
        obtain ⟨hy0, hy1⟩ := hyb
        have Hy := hd hy
        have Ha := hd ha
        clear hy ha
        by_cases hlt : k < s.size
        · have hy2 := hyc hlt
          clear hyc
          have Hx := hd (Hat.out k hlt)
          by_cases hlo : (s[k].toNat : Int) < 48
          · have HF : Hid (Num9 s 0) := hd (num9_bad (neg := false) (d := s.data.toList) (fun h => by cases h) (fun _ => ⟨rfl, Hn.out⟩) Hx.out (by simp only [isDig]; simp; omega) 0)
            go_wp2
            go_ret2
            exact ⟨0, false, rfl, ⟨HF.out, fun _ => rfl⟩, rfl⟩
          by_cases hhi : 57 < (s[k].toNat : Int)
          · have HF : Hid (Num9 s 0) := hd (num9_bad (neg := false) (d := s.data.toList) (fun h => by cases h) (fun _ => ⟨rfl, Hn.out⟩) Hx.out (by simp only [isDig]; simp; omega) 0)
            go_wp2
            go_ret2
            exact ⟨0, false, rfl, ⟨HF.out, fun _ => rfl⟩, rfl⟩
          have HS := hd (dval_take s k hlt)
          have HT : Hid (((s.data.toList.take (k + 1)).all isDig) = true) := hd (all_take_succ isDig _ k _ Hx.out Ha.out (by simp only [isDig]; simp; omega))
          have hq1 : (48 : Int) ≤ s[k].toNat := by omega
          have hq2 : (s[k].toNat : Int) ≤ 57 := by omega
          have e5 : IntKind.u8.wrap ((s[k].toNat : Int) - 48) = (s[k].toNat : Int) - 48 := by
            simp only [IntKind.wrap, IntKind.bits, IntKind.signed]
            simp
            omega
          go_wp2
          go_round
          case rel => exact ⟨k + 1, _, by omega, by go_num, rfl, by rw [HS.out, ← Hy.out]; omega, HT.out⟩
          case measure => simp [intOf] <;> omega
        · have HF : Hid (Num9 s (y)) := hd (num9_good (neg := false) (d := s.data.toList) (fun h => by cases h) (fun _ => ⟨rfl, Hn.out⟩) (by rw [Hy.out, List.take_of_length_le (by rw [hDl.out]; omega)]; rfl))
          clear hyc
          go_wp2
          go_ret2
          exact ⟨y, true, rfl, ⟨HF.out, fun h => by omega⟩, rfl⟩
  · have e3 : ((s[0].toNat : Int) == 48) = false := by
      simp only [beq_eq_false_iff_ne, ne_eq]
      intro h2
      exact hz (byte_of h2)
    clear hz
    have Hat := hd (fun k (h : k < s.size) => str_at s k h)
    go_enter Tryd.func25, Tryd.ntmps25
    go_wp2
    go_loop [5, 6] (fun n i => ∃ (k : Nat) (y : Int), k ≤ s.size ∧ i = .int .i64 k ∧ n = .int .i64 y ∧ y = dval (s.data.toList.take k) ∧ (s.data.toList.take k).all isDig = true) (fun _ i => s.size - (intOf i).toNat)
    case atStart => exact ⟨0, 0, by omega, rfl, rfl, by simp [dval], by simp⟩
    case round =>
      obtain ⟨k, y, hk, rfl, rfl, hy, ha⟩ := hrel
      have hyb : 0 ≤ y ∧ y ≤ 100000000000000000 := by
        have h2 := dval_nonneg _ ha
        rw [← hy] at h2
        have h3 := pow17 (k := (s.data.toList.take k).length) (by rw [List.length_take, hDl.out]; omega)
        omega
      have hyc : k < s.size → y ≤ 10000000000000000 := fun hlt => by
        have h2 := dval_nonneg _ ha
        rw [← hy] at h2
        have h3 := Nat.pow_le_pow_right (show 1 ≤ 10 by decide) (show (s.data.toList.take k).length ≤ 16 by rw [List.length_take, hDl.out]; omega)
        have h4 : (10 : Nat) ^ 16 = 10000000000000000 := by decide
        omega
      obtain ⟨hy0, hy1⟩ := hyb
      have Hy := hd hy
      have Ha := hd ha
      clear hy ha
      by_cases hlt : k < s.size
      · have hy2 := hyc hlt
        clear hyc
        have Hx := hd (Hat.out k hlt)
        by_cases hlo : (s[k].toNat : Int) < 48
        · have HF : Hid (Num9 s 0) := hd (num9_bad (neg := false) (d := s.data.toList) (fun h => by cases h) (fun _ => ⟨rfl, Hn.out⟩) Hx.out (by simp only [isDig]; simp; omega) 0)
          go_wp2
          go_ret2
          exact ⟨0, false, rfl, ⟨HF.out, fun _ => rfl⟩, rfl⟩
        by_cases hhi : 57 < (s[k].toNat : Int)
        · have HF : Hid (Num9 s 0) := hd (num9_bad (neg := false) (d := s.data.toList) (fun h => by cases h) (fun _ => ⟨rfl, Hn.out⟩) Hx.out (by simp only [isDig]; simp; omega) 0)
          go_wp2
          go_ret2
          exact ⟨0, false, rfl, ⟨HF.out, fun _ => rfl⟩, rfl⟩
        have HS := hd (dval_take s k hlt)
        have HT : Hid (((s.data.toList.take (k + 1)).all isDig) = true) := hd (all_take_succ isDig _ k _ Hx.out Ha.out (by simp only [isDig]; simp; omega))
        have hq1 : (48 : Int) ≤ s[k].toNat := by omega
        have hq2 : (s[k].toNat : Int) ≤ 57 := by omega
        have e5 : IntKind.u8.wrap ((s[k].toNat : Int) - 48) = (s[k].toNat : Int) - 48 := by
          simp only [IntKind.wrap, IntKind.bits, IntKind.signed]
          simp
          omega
        go_wp2
        go_round
        case rel => exact ⟨k + 1, _, by omega, by go_num, rfl, by rw [HS.out, ← Hy.out]; omega, HT.out⟩
        case measure => simp [intOf] <;> omega
      · have HF : Hid (Num9 s (y)) := hd (num9_good (neg := false) (d := s.data.toList) (fun h => by cases h) (fun _ => ⟨rfl, Hn.out⟩) (by rw [Hy.out, List.take_of_length_le (by rw [hDl.out]; omega)]; rfl))
        clear hyc
        go_wp2
        go_ret2
        exact ⟨y, true, rfl, ⟨HF.out, fun h => by omega⟩, rfl⟩

set_option maxHeartbeats 800000 in
theorem l9Num_any (s : ByteArray) (w : World) (hs : s.size ≤ 1048576) :
    Calls Tryd.prog 25 #[.string s] w fun e w' => RetN s w e w' := by
  by_cases h0 : 0 < s.size
  · by_cases hb : s[0] = 45
    · exact l9Num_neg s w hs h0 hb
    · exact l9Num_pos s w hs h0 hb
  · have hl : s.data.toList = [] := List.eq_nil_of_length_eq_zero (by rw [str_len]; omega)
    have HF : Hid (Num9 s 0) := hd (num9_empty (d := []) (neg := false) (fun h => by cases h) (fun _ => ⟨hl, by simp⟩) rfl 0)
    have e0 : ¬ (0 : Int) < s.size := by omega
    have e1 : ((s.size : Int) == 0) = true := by rw [beq_iff_eq]; omega
    clear hl
    go_enter Tryd.func25, Tryd.ntmps25
    go_wp2
    go_ret2
    exact ⟨0, false, rfl, ⟨HF.out, fun _ => rfl⟩, rfl⟩

end Go.Proofs.YtinhcdppdnmlgaaDoor
