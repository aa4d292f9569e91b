/- Turning wheels without carries, and the wheels that pass from 9 to 0, on both sides. -/
import Derived.Test.YtinhcdppdnmlgaaTxV
import Derived.Test.YtinhcdppdnmlgaaGrD
import Derived.Test.YtinhcdppdnmlgaaGrG
import Derived.Test.YtinhcdppdnmlgaaShelf
import Derived.Deep.RegionLaw
namespace Go.Proofs.Ytinhcdppdnmlgaa
open Go.RowKit
set_option maxRecDepth 4000

theorem alikeB_d {X Y : ByteArray} {a b : List Nat} (hX : dstr a = X) (hY : dstr b = Y) (h1 : 1 ≤ a.length) (h12 : a.length ≤ 12) (hb : b.length = a.length) (da : Le 9 a) (db : Le 9 b) : alikeB X Y = true := by
  subst hX hY
  simp [alikeB, colV_dstr h1 h12 da, colV_dstr (ds := b) (by omega) (by omega) db, dstr_size, hb]

theorem l1Pair_d (X Y : ByteArray) (w : World) (hX : colV X = true) (hY : colV Y = true) (hXs : X.size ≤ 12) (_ : Y.size ≤ 12) (hs : (X.size : Int) = Y.size) :
    Calls Try.prog 33 #[.string X, .string Y] w fun e w' => e = .returned (.bool true) ∧ w = w' := by
  have HX := hd (fun w => (sColV_q X true w (by omega) hX).mono fun _ _ ⟨h1, h2⟩ => (⟨h1, h2.symm⟩ : _ ∧ w = _))
  have HY := hd (fun w => (sColV_q Y true w (by omega) hY).mono fun _ _ ⟨h1, h2⟩ => (⟨h1, h2.symm⟩ : _ ∧ w = _))
  clear hX hY
  go_enter Try.func33, Try.ntmps33
  go_wp2_with fail
  refine (HX.out _).mono ?_
  rintro e w' ⟨rfl, rfl⟩
  go_wp2_with fail
  refine (HY.out _).mono ?_
  rintro e w' ⟨rfl, rfl⟩
  go_wp2
  go_ret
  exact ⟨rfl, rfl⟩

set_option maxHeartbeats 4000000 in
theorem TurnWheels_d (a b : List Nat) (X Y Z : ByteArray) (w : World) (hX : dstr a = X) (hY : dstr b = Y) (hZ : dstr (turnL a b) = Z) (h1 : 1 ≤ a.length) (h12 : a.length ≤ 12) (hb : b.length = a.length) (da : Le 9 a) (db : Le 9 b) :
    Calls Try.prog 26 #[.string X, .string Y] w fun e w' => RetSB w Z true e w' := by
  obtain ⟨i0, hi, hz0, hz1, hz2⟩ := info_parts infoB
  have HX := hd hX
  have HY := hd hY
  have HZ := hd hZ
  have Da := hd da
  have Db := hd db
  have hXs : X.size = a.length := by rw [← hX, dstr_size]
  have hYs : Y.size = a.length := by rw [← hY, dstr_size, hb]
  have Hl : Hid ((turnL a b).length = X.size) := hd (by rw [hXs]; exact turnL_length hb)
  have hx12 : X.size ≤ 12 := by omega
  have hx1 : 1 ≤ X.size := by omega
  have Hxl : Hid (a.length = X.size) := hd hXs.symm
  have Hyl : Hid (b.length = X.size) := hd (by omega)
  have hys : (X.size : Int) = Y.size := by omega
  have Hys := hd hys
  have hy12 : Y.size ≤ 12 := by omega
  have H9 : Hid (Le 9 (turnL a b)) := hd (turnL_le a b)
  have HA := hd (fun w => alike_b X Y true w (by omega) (by omega) (alikeB_d hX hY h1 h12 hb da db))
  clear hX hY hZ da db hb h1 h12 hXs hYs hys
  go_enter Try.func26, Try.ntmps26
  go_wp2_with fail
  refine (HA.out _).mono ?_
  rintro e w' ⟨rfl, rfl⟩
  go_wp2_with (at_make; refine wpList_make_full _ rfl _ _ 46 rfl w.heap.size 5 i0 (.int .u8 0) 1 Try.underlying46 hi hz0 hz1 .i64 .i64 _ _ X.size rfl rfl rfl rfl (by rw [hz2]; omega) (by unfold maxLen; omega) (Nat.le_refl _) ?_; intro w1 hown hgrow)
  have Own0 : Hid (OwnB 5 w.heap.size w1 (some ⟨w.heap.size, 0, none⟩) X.size (List.replicate X.size 0)) := hd (OwnG.made 0 rfl hown (by omega))
  have B0 := hd ((Below.refl w.heap.size w).grown hgrow (Nat.le_refl _) (by simp))
  clear hown hgrow
  go_loopw [17] (fun i wr => ∃ (k : Nat) (xs : List Int), k ≤ X.size ∧ i = .int .i64 k ∧ xs.length = X.size ∧ xs.take k = ((turnL a b).map fun d : Nat => ((48 + d : Nat) : Int)).take k ∧ OwnB 5 w.heap.size wr (some ⟨w.heap.size, 0, none⟩) X.size xs ∧ Below w.heap.size w wr) (fun i _ => X.size - (intOf i).toNat)
  case atStart => exact ⟨0, List.replicate X.size 0, by omega, rfl, by simp, rfl, Own0.out, B0.out⟩
  case round =>
    clear Own0 B0
    obtain ⟨k, xs, hk, rfl, hxl, hxt, own, bw⟩ := hrel
    have Xl := hd hxl
    have Xt := hd hxt
    have Own := hd own
    have Bw := hd bw
    clear hxl hxt own bw
    by_cases hlt : k < X.size
    · have hlY : k < Y.size := by have := Hys.out; omega
      have e1 : (k : Int) < X.size := by omega
      have e2 : (k : Int) < Y.size := by omega
      have e3 : (0 : Int) ≤ k := by omega
      obtain ⟨p, hp⟩ : ∃ p, a[k]? = some p := ⟨a[k]'(by rw [Hxl.out]; exact hlt), List.getElem?_eq_getElem _⟩
      obtain ⟨q, hq⟩ : ∃ q, b[k]? = some q := ⟨b[k]'(by rw [Hyl.out]; exact hlt), List.getElem?_eq_getElem _⟩
      have hp9 := Da.out.at_ hp
      have hq9 := Db.out.at_ hq
      have hA : ((X[k]).toNat : Int) = 48 + p := by have h2 := HX.out; subst h2; exact dstr_at hp hp9 hlt
      have hB : ((Y[k]).toNat : Int) = 48 + q := by have h2 := HY.out; subst h2; exact dstr_at hq hq9 hlY
      have HT : Hid ((turnL a b)[k]? = some ((p + q) % 10)) := hd (turnL_at hp hq)
      obtain ⟨Av, hAv⟩ : ∃ Av : Int, ((X[k]).toNat : Int) = Av := ⟨_, rfl⟩
      obtain ⟨Bv, hBv⟩ : ∃ Bv : Int, ((Y[k]).toNat : Int) = Bv := ⟨_, rfl⟩
      rw [hAv] at hA
      rw [hBv] at hB
      obtain ⟨P, hP⟩ : ∃ P : Int, P = p := ⟨_, rfl⟩
      obtain ⟨S, hS⟩ : ∃ S : Int, S = p + 48 + q := ⟨_, rfl⟩
      obtain ⟨T, hT⟩ : ∃ T : Int, T = p + q := ⟨_, rfl⟩
      obtain ⟨R, hR⟩ : ∃ R : Int, R = ((p + q) % 10 : Nat) := ⟨_, rfl⟩
      obtain ⟨V, hV⟩ : ∃ V : Int, V = 48 + R := ⟨_, rfl⟩
      have t1 : IntKind.u8.wrap (Av - 48) = P := by simp only [IntKind.wrap, IntKind.bits, IntKind.signed]; simp; omega
      have t2 : IntKind.u8.wrap (P + Bv) = S := by simp only [IntKind.wrap, IntKind.bits, IntKind.signed]; simp; omega
      have t3 : IntKind.u8.wrap (S - 48) = T := by simp only [IntKind.wrap, IntKind.bits, IntKind.signed]; simp; omega
      have t4 : T % 10 = R := by omega
      have t4' : T.tmod 10 = R := by rw [Int.tmod_eq_emod_of_nonneg (by omega)]; exact t4
      have t5 : IntKind.u8.wrap (48 + R) = V := by simp only [IntKind.wrap, IntKind.bits, IntKind.signed]; simp; omega
      have t6 : IntKind.u8.wrap R = R := by simp only [IntKind.wrap, IntKind.bits, IntKind.signed]; simp; omega
      have Hn1 : Hid ((xs.set k V).take (k + 1) = ((turnL a b).map fun d : Nat => ((48 + d : Nat) : Int)).take (k + 1)) := hd (take_set_succ (by rw [Xl.out]; exact hlt) Xt.out (by rw [List.getElem?_map, HT.out, hV, hR]; simp))
      have Hl1 : Hid ((xs.set k V).length = X.size) := hd (by rw [List.length_set]; exact Xl.out)
      obtain ⟨g', o, ho, hg', hco, hfo⟩ := Own.out.at_ (k := k) (by rw [Xl.out]; exact hlt)
      simp only [Option.some.injEq, Addr.mk.injEq, and_true] at hg'
      subst hg'
      have Own5 := hd (Own.out.set k V)
      have Bw5 := hd (Bw.out.setCell (p := ⟨w.heap.size, k, none⟩) (Nat.le_refl _) (.int .u8 V))
      clear ho hp hq hA hB hP hS hT hR hV
      go_wp2
      go_region_law (fail)
      all_goals
        go_wp2
        go_roundw
        case rel => exact ⟨k + 1, _, by omega, by go_num, Hl1.out, Hn1.out, Own5.out.drew, Bw5.out.drew⟩
        case measure => simp [intOf] <;> omega
    · obtain rfl : k = X.size := by omega
      have Hx : Hid (xs = (turnL a b).map fun d : Nat => ((48 + d : Nat) : Int)) := hd (by
        have h3 := Xt.out
        rw [List.take_of_length_le (by rw [Xl.out]; exact Nat.le_refl _), List.take_of_length_le (by rw [List.length_map, Hl.out]; exact Nat.le_refl _)] at h3
        exact h3)
      have qS := run_dstr (src := 46) (dst := 9) (e := 5) Try.underlying46 Try.underlying5 Try.underlying9 Own.out Hx.out Hl.out H9.out
      rw [HZ.out] at qS
      go_wp2
      go_ret2
      exact ⟨rfl, Bw.out⟩

set_option maxHeartbeats 4000000 in
theorem sTurnWheels_d (a b : List Nat) (X Y Z : ByteArray) (w : World) (hX : dstr a = X) (hY : dstr b = Y) (hZ : dstr (turnL a b) = Z) (h1 : 1 ≤ a.length) (h12 : a.length ≤ 12) (hb : b.length = a.length) (da : Le 9 a) (db : Le 9 b) :
    Calls Try.prog 22 #[.string X, .string Y] w fun e w' => RetSB w Z true e w' := by
  obtain ⟨i0, hi, hz0, hz1, hz2⟩ := info_parts infoB
  have HX := hd hX
  have HY := hd hY
  have HZ := hd hZ
  have Da := hd da
  have Db := hd db
  have hXs : X.size = a.length := by rw [← hX, dstr_size]
  have hYs : Y.size = a.length := by rw [← hY, dstr_size, hb]
  have Hl : Hid ((turnL a b).length = X.size) := hd (by rw [hXs]; exact turnL_length hb)
  have hx12 : X.size ≤ 12 := by omega
  have hx1 : 1 ≤ X.size := by omega
  have Hxl : Hid (a.length = X.size) := hd hXs.symm
  have Hyl : Hid (b.length = X.size) := hd (by omega)
  have hys : (X.size : Int) = Y.size := by omega
  have Hys := hd hys
  have hy12 : Y.size ≤ 12 := by omega
  have H9 : Hid (Le 9 (turnL a b)) := hd (turnL_le a b)
  have HA := hd (fun w => l1Pair_d X Y w (by rw [← hX]; exact colV_dstr h1 h12 da) (by rw [← hY]; exact colV_dstr (by omega) (by omega) db) hx12 hy12 hys)
  clear hX hY hZ da db hb h1 h12 hXs hYs hys
  go_enter Try.func22, Try.ntmps22
  go_wp2_with fail
  refine (HA.out _).mono ?_
  rintro e w' ⟨rfl, rfl⟩
  go_wp2_with (at_make; refine wpList_make_full _ rfl _ _ 46 rfl w.heap.size 5 i0 (.int .u8 0) 1 Try.underlying46 hi hz0 hz1 .i64 .i64 _ _ X.size rfl rfl rfl rfl (by rw [hz2]; omega) (by unfold maxLen; omega) (Nat.le_refl _) ?_; intro w1 hown hgrow)
  have Own0 : Hid (OwnB 5 w.heap.size w1 (some ⟨w.heap.size, 0, none⟩) X.size (List.replicate X.size 0)) := hd (OwnG.made 0 rfl hown (by omega))
  have B0 := hd ((Below.refl w.heap.size w).grown hgrow (Nat.le_refl _) (by simp))
  clear hown hgrow
  go_loopw [7] (fun i wr => ∃ (k : Nat) (xs : List Int), k ≤ X.size ∧ i = .int .i64 k ∧ xs.length = X.size ∧ xs.take k = ((turnL a b).map fun d : Nat => ((48 + d : Nat) : Int)).take k ∧ OwnB 5 w.heap.size wr (some ⟨w.heap.size, 0, none⟩) X.size xs ∧ Below w.heap.size w wr) (fun i _ => X.size - (intOf i).toNat)
  case atStart => exact ⟨0, List.replicate X.size 0, by omega, rfl, by simp, rfl, Own0.out, B0.out⟩
  case round =>
    clear Own0 B0
    obtain ⟨k, xs, hk, rfl, hxl, hxt, own, bw⟩ := hrel
    have Xl := hd hxl
    have Xt := hd hxt
    have Own := hd own
    have Bw := hd bw
    clear hxl hxt own bw
    by_cases hlt : k < X.size
    · have hlY : k < Y.size := by have := Hys.out; omega
      have e1 : (k : Int) < X.size := by omega
      have e2 : (k : Int) < Y.size := by omega
      have e3 : (0 : Int) ≤ k := by omega
      obtain ⟨p, hp⟩ : ∃ p, a[k]? = some p := ⟨a[k]'(by rw [Hxl.out]; exact hlt), List.getElem?_eq_getElem _⟩
      obtain ⟨q, hq⟩ : ∃ q, b[k]? = some q := ⟨b[k]'(by rw [Hyl.out]; exact hlt), List.getElem?_eq_getElem _⟩
      have hp9 := Da.out.at_ hp
      have hq9 := Db.out.at_ hq
      have hA : ((X[k]).toNat : Int) = 48 + p := by have h2 := HX.out; subst h2; exact dstr_at hp hp9 hlt
      have hB : ((Y[k]).toNat : Int) = 48 + q := by have h2 := HY.out; subst h2; exact dstr_at hq hq9 hlY
      have HT : Hid ((turnL a b)[k]? = some ((p + q) % 10)) := hd (turnL_at hp hq)
      obtain ⟨Av, hAv⟩ : ∃ Av : Int, ((X[k]).toNat : Int) = Av := ⟨_, rfl⟩
      obtain ⟨Bv, hBv⟩ : ∃ Bv : Int, ((Y[k]).toNat : Int) = Bv := ⟨_, rfl⟩
      rw [hAv] at hA
      rw [hBv] at hB
      obtain ⟨P, hP⟩ : ∃ P : Int, P = p := ⟨_, rfl⟩
      obtain ⟨S, hS⟩ : ∃ S : Int, S = p + 48 + q := ⟨_, rfl⟩
      obtain ⟨T, hT⟩ : ∃ T : Int, T = p + q := ⟨_, rfl⟩
      obtain ⟨R, hR⟩ : ∃ R : Int, R = ((p + q) % 10 : Nat) := ⟨_, rfl⟩
      obtain ⟨V, hV⟩ : ∃ V : Int, V = 48 + R := ⟨_, rfl⟩
      have t1 : IntKind.i64.wrap (Av - 48) = P := (IntWalk.i64_in (Av - 48) (by omega)).trans (by omega)
      have t2 : IntKind.i64.wrap (P + Bv) = S := (IntWalk.i64_in (P + Bv) (by omega)).trans (by omega)
      have t3 : IntKind.i64.wrap (S - 48) = T := (IntWalk.i64_in (S - 48) (by omega)).trans (by omega)
      have t0 : IntKind.i64.wrap Av = Av := IntWalk.i64_in _ (by omega)
      have t0' : IntKind.i64.wrap Bv = Bv := IntWalk.i64_in _ (by omega)
      have t4 : T % 10 = R := by omega
      have t4' : T.tmod 10 = R := by rw [Int.tmod_eq_emod_of_nonneg (by omega)]; exact t4
      have t5 : IntKind.u8.wrap (48 + R) = V := by simp only [IntKind.wrap, IntKind.bits, IntKind.signed]; simp; omega
      have t6 : IntKind.i64.wrap (48 + R) = V := (IntWalk.i64_in (48 + R) (by omega)).trans hV.symm
      have t7 : IntKind.u8.wrap V = V := by simp only [IntKind.wrap, IntKind.bits, IntKind.signed]; simp; omega
      have t8 : IntKind.i64.wrap R = R := IntWalk.i64_in _ (by omega)
      have Hn1 : Hid ((xs.set k V).take (k + 1) = ((turnL a b).map fun d : Nat => ((48 + d : Nat) : Int)).take (k + 1)) := hd (take_set_succ (by rw [Xl.out]; exact hlt) Xt.out (by rw [List.getElem?_map, HT.out, hV, hR]; simp))
      have Hl1 : Hid ((xs.set k V).length = X.size) := hd (by rw [List.length_set]; exact Xl.out)
      obtain ⟨g', o, ho, hg', hco, hfo⟩ := Own.out.at_ (k := k) (by rw [Xl.out]; exact hlt)
      simp only [Option.some.injEq, Addr.mk.injEq, and_true] at hg'
      subst hg'
      have Own5 := hd (Own.out.set k V)
      have Bw5 := hd (Bw.out.setCell (p := ⟨w.heap.size, k, none⟩) (Nat.le_refl _) (.int .u8 V))
      clear ho hp hq hA hB hP hS hT hR hV
      go_wp2
      go_region_law (fail)
      all_goals
        go_wp2
        go_roundw
        case rel => exact ⟨k + 1, _, by omega, by go_num, Hl1.out, Hn1.out, Own5.out.drew, Bw5.out.drew⟩
        case measure => simp [intOf] <;> omega
    · obtain rfl : k = X.size := by omega
      have Hx : Hid (xs = (turnL a b).map fun d : Nat => ((48 + d : Nat) : Int)) := hd (by
        have h3 := Xt.out
        rw [List.take_of_length_le (by rw [Xl.out]; exact Nat.le_refl _), List.take_of_length_le (by rw [List.length_map, Hl.out]; exact Nat.le_refl _)] at h3
        exact h3)
      have qS := run_dstr (src := 46) (dst := 9) (e := 5) Try.underlying46 Try.underlying5 Try.underlying9 Own.out Hx.out Hl.out H9.out
      rw [HZ.out] at qS
      go_wp2
      go_ret2
      exact ⟨rfl, Bw.out⟩

set_option maxHeartbeats 4000000 in
theorem sWarnedWheels_d (a b : List Nat) (X Y Z : ByteArray) (w : World) (hX : dstr a = X) (hY : dstr b = Y) (hZ : dstr (warnL a b) = Z) (h1 : 1 ≤ a.length) (h12 : a.length ≤ 12) (hb : b.length = a.length) (da : Le 9 a) (db : Le 9 b) :
    Calls Try.prog 23 #[.string X, .string Y] w fun e w' => RetSB w Z true e w' := by
  obtain ⟨i0, hi, hz0, hz1, hz2⟩ := info_parts infoB
  have HX := hd hX
  have HY := hd hY
  have HZ := hd hZ
  have Da := hd da
  have Db := hd db
  have hXs : X.size = a.length := by rw [← hX, dstr_size]
  have hYs : Y.size = a.length := by rw [← hY, dstr_size, hb]
  have Hl : Hid ((warnL a b).length = X.size) := hd (by rw [hXs]; exact warnL_length hb)
  have hx12 : X.size ≤ 12 := by omega
  have hx1 : 1 ≤ X.size := by omega
  have Hxl : Hid (a.length = X.size) := hd hXs.symm
  have Hyl : Hid (b.length = X.size) := hd (by omega)
  have hys : (X.size : Int) = Y.size := by omega
  have Hys := hd hys
  have hy12 : Y.size ≤ 12 := by omega
  have H9 : Hid (Le 9 (warnL a b)) := hd ((warnL_le da db).mono (by omega))
  have HA := hd (fun w => l1Pair_d X Y w (by rw [← hX]; exact colV_dstr h1 h12 da) (by rw [← hY]; exact colV_dstr (by omega) (by omega) db) hx12 hy12 hys)
  clear hX hY hZ da db hb h1 h12 hXs hYs hys
  go_enter Try.func23, Try.ntmps23
  go_wp2_with fail
  refine (HA.out _).mono ?_
  rintro e w' ⟨rfl, rfl⟩
  go_wp2_with (at_make; refine wpList_make_full _ rfl _ _ 46 rfl w.heap.size 5 i0 (.int .u8 0) 1 Try.underlying46 hi hz0 hz1 .i64 .i64 _ _ X.size rfl rfl rfl rfl (by rw [hz2]; omega) (by unfold maxLen; omega) (Nat.le_refl _) ?_; intro w1 hown hgrow)
  have Own0 : Hid (OwnB 5 w.heap.size w1 (some ⟨w.heap.size, 0, none⟩) X.size (List.replicate X.size 0)) := hd (OwnG.made 0 rfl hown (by omega))
  have B0 := hd ((Below.refl w.heap.size w).grown hgrow (Nat.le_refl _) (by simp))
  clear hown hgrow
  go_loopw [7] (fun i wr => ∃ (k : Nat) (xs : List Int), k ≤ X.size ∧ i = .int .i64 k ∧ xs.length = X.size ∧ xs.take k = ((warnL a b).map fun d : Nat => ((48 + d : Nat) : Int)).take k ∧ OwnB 5 w.heap.size wr (some ⟨w.heap.size, 0, none⟩) X.size xs ∧ Below w.heap.size w wr) (fun i _ => X.size - (intOf i).toNat)
  case atStart => exact ⟨0, List.replicate X.size 0, by omega, rfl, by simp, rfl, Own0.out, B0.out⟩
  case round =>
    clear Own0 B0
    obtain ⟨k, xs, hk, rfl, hxl, hxt, own, bw⟩ := hrel
    have Xl := hd hxl
    have Xt := hd hxt
    have Own := hd own
    have Bw := hd bw
    clear hxl hxt own bw
    by_cases hlt : k < X.size
    · have hlY : k < Y.size := by have := Hys.out; omega
      have e1 : (k : Int) < X.size := by omega
      have e2 : (k : Int) < Y.size := by omega
      have e3 : (0 : Int) ≤ k := by omega
      obtain ⟨p, hp⟩ : ∃ p, a[k]? = some p := ⟨a[k]'(by rw [Hxl.out]; exact hlt), List.getElem?_eq_getElem _⟩
      obtain ⟨q, hq⟩ : ∃ q, b[k]? = some q := ⟨b[k]'(by rw [Hyl.out]; exact hlt), List.getElem?_eq_getElem _⟩
      have hp9 := Da.out.at_ hp
      have hq9 := Db.out.at_ hq
      have hA : ((X[k]).toNat : Int) = 48 + p := by have h2 := HX.out; subst h2; exact dstr_at hp hp9 hlt
      have hB : ((Y[k]).toNat : Int) = 48 + q := by have h2 := HY.out; subst h2; exact dstr_at hq hq9 hlY
      have HT : Hid ((warnL a b)[k]? = some ((p + q) / 10)) := hd (warnL_at hp hq)
      obtain ⟨Av, hAv⟩ : ∃ Av : Int, ((X[k]).toNat : Int) = Av := ⟨_, rfl⟩
      obtain ⟨Bv, hBv⟩ : ∃ Bv : Int, ((Y[k]).toNat : Int) = Bv := ⟨_, rfl⟩
      rw [hAv] at hA
      rw [hBv] at hB
      obtain ⟨P, hP⟩ : ∃ P : Int, P = p := ⟨_, rfl⟩
      obtain ⟨S, hS⟩ : ∃ S : Int, S = p + 48 + q := ⟨_, rfl⟩
      obtain ⟨T, hT⟩ : ∃ T : Int, T = p + q := ⟨_, rfl⟩
      obtain ⟨R, hR⟩ : ∃ R : Int, R = ((p + q) / 10 : Nat) := ⟨_, rfl⟩
      obtain ⟨V, hV⟩ : ∃ V : Int, V = 48 + R := ⟨_, rfl⟩
      have t1 : IntKind.i64.wrap (Av - 48) = P := (IntWalk.i64_in (Av - 48) (by omega)).trans (by omega)
      have t2 : IntKind.i64.wrap (P + Bv) = S := (IntWalk.i64_in (P + Bv) (by omega)).trans (by omega)
      have t3 : IntKind.i64.wrap (S - 48) = T := (IntWalk.i64_in (S - 48) (by omega)).trans (by omega)
      have t0 : IntKind.i64.wrap Av = Av := IntWalk.i64_in _ (by omega)
      have t0' : IntKind.i64.wrap Bv = Bv := IntWalk.i64_in _ (by omega)
      have t4 : T / 10 = R := by omega
      have t4' : T.tdiv 10 = R := by rw [Int.tdiv_eq_ediv_of_nonneg (by omega)]; exact t4
      have t5 : IntKind.u8.wrap (48 + R) = V := by simp only [IntKind.wrap, IntKind.bits, IntKind.signed]; simp; omega
      have t6 : IntKind.i64.wrap (48 + R) = V := (IntWalk.i64_in (48 + R) (by omega)).trans hV.symm
      have t7 : IntKind.u8.wrap V = V := by simp only [IntKind.wrap, IntKind.bits, IntKind.signed]; simp; omega
      have t8 : IntKind.i64.wrap R = R := IntWalk.i64_in _ (by omega)
      have Hn1 : Hid ((xs.set k V).take (k + 1) = ((warnL a b).map fun d : Nat => ((48 + d : Nat) : Int)).take (k + 1)) := hd (take_set_succ (by rw [Xl.out]; exact hlt) Xt.out (by rw [List.getElem?_map, HT.out, hV, hR]; simp))
      have Hl1 : Hid ((xs.set k V).length = X.size) := hd (by rw [List.length_set]; exact Xl.out)
      obtain ⟨g', o, ho, hg', hco, hfo⟩ := Own.out.at_ (k := k) (by rw [Xl.out]; exact hlt)
      simp only [Option.some.injEq, Addr.mk.injEq, and_true] at hg'
      subst hg'
      have Own5 := hd (Own.out.set k V)
      have Bw5 := hd (Bw.out.setCell (p := ⟨w.heap.size, k, none⟩) (Nat.le_refl _) (.int .u8 V))
      clear ho hp hq hA hB hP hS hT hR hV
      go_wp2
      go_region_law (fail)
      all_goals
        go_wp2
        go_roundw
        case rel => exact ⟨k + 1, _, by omega, by go_num, Hl1.out, Hn1.out, Own5.out.drew, Bw5.out.drew⟩
        case measure => simp [intOf] <;> omega
    · obtain rfl : k = X.size := by omega
      have Hx : Hid (xs = (warnL a b).map fun d : Nat => ((48 + d : Nat) : Int)) := hd (by
        have h3 := Xt.out
        rw [List.take_of_length_le (by rw [Xl.out]; exact Nat.le_refl _), List.take_of_length_le (by rw [List.length_map, Hl.out]; exact Nat.le_refl _)] at h3
        exact h3)
      have qS := run_dstr (src := 46) (dst := 9) (e := 5) Try.underlying46 Try.underlying5 Try.underlying9 Own.out Hx.out Hl.out H9.out
      rw [HZ.out] at qS
      go_wp2
      go_ret2
      exact ⟨rfl, Bw.out⟩

set_option maxHeartbeats 4000000 in
theorem WarnedWheels_d (a b : List Nat) (X Y Z : ByteArray) (w : World) (hX : dstr a = X) (hY : dstr b = Y) (hZ : dstr (warnL a b) = Z) (h1 : 1 ≤ a.length) (h12 : a.length ≤ 12) (hb : b.length = a.length) (da : Le 9 a) (db : Le 9 b) :
    Calls Try.prog 27 #[.string X, .string Y] w fun e w' => RetSB w Z true e w' := by
  obtain ⟨i0, hi, hz0, hz1, hz2⟩ := info_parts infoB
  have HX := hd hX
  have HY := hd hY
  have HZ := hd hZ
  have Da := hd da
  have Db := hd db
  have hXs : X.size = a.length := by rw [← hX, dstr_size]
  have hYs : Y.size = a.length := by rw [← hY, dstr_size, hb]
  have Hl : Hid ((warnL a b).length = X.size) := hd (by rw [hXs]; exact warnL_length hb)
  have hx12 : X.size ≤ 12 := by omega
  have hx1 : 1 ≤ X.size := by omega
  have Hxl : Hid (a.length = X.size) := hd hXs.symm
  have Hyl : Hid (b.length = X.size) := hd (by omega)
  have hys : (X.size : Int) = Y.size := by omega
  have Hys := hd hys
  have hy12 : Y.size ≤ 12 := by omega
  have H9 : Hid (Le 9 (warnL a b)) := hd ((warnL_le da db).mono (by omega))
  have HA := hd (fun w => alike_b X Y true w (by omega) (by omega) (alikeB_d hX hY h1 h12 hb da db))
  clear hX hY hZ da db hb h1 h12 hXs hYs hys
  go_enter Try.func27, Try.ntmps27
  go_wp2_with fail
  refine (HA.out _).mono ?_
  rintro e w' ⟨rfl, rfl⟩
  go_wp2_with (at_make; refine wpList_make_full _ rfl _ _ 46 rfl w.heap.size 5 i0 (.int .u8 0) 1 Try.underlying46 hi hz0 hz1 .i64 .i64 _ _ X.size rfl rfl rfl rfl (by rw [hz2]; omega) (by unfold maxLen; omega) (Nat.le_refl _) ?_; intro w1 hown hgrow)
  have Own0 : Hid (OwnB 5 w.heap.size w1 (some ⟨w.heap.size, 0, none⟩) X.size (List.replicate X.size 0)) := hd (OwnG.made 0 rfl hown (by omega))
  have B0 := hd ((Below.refl w.heap.size w).grown hgrow (Nat.le_refl _) (by simp))
  clear hown hgrow
  go_loopw [17] (fun i wr => ∃ (k : Nat) (xs : List Int), k ≤ X.size ∧ i = .int .i64 k ∧ xs.length = X.size ∧ xs.take k = ((warnL a b).map fun d : Nat => ((48 + d : Nat) : Int)).take k ∧ OwnB 5 w.heap.size wr (some ⟨w.heap.size, 0, none⟩) X.size xs ∧ Below w.heap.size w wr) (fun i _ => X.size - (intOf i).toNat)
  case atStart => exact ⟨0, List.replicate X.size 0, by omega, rfl, by simp, rfl, Own0.out, B0.out⟩
  case round =>
    clear Own0 B0
    obtain ⟨k, xs, hk, rfl, hxl, hxt, own, bw⟩ := hrel
    have Xl := hd hxl
    have Xt := hd hxt
    have Own := hd own
    have Bw := hd bw
    clear hxl hxt own bw
    by_cases hlt : k < X.size
    · have hlY : k < Y.size := by have := Hys.out; omega
      have e1 : (k : Int) < X.size := by omega
      have e2 : (k : Int) < Y.size := by omega
      have e3 : (0 : Int) ≤ k := by omega
      obtain ⟨p, hp⟩ : ∃ p, a[k]? = some p := ⟨a[k]'(by rw [Hxl.out]; exact hlt), List.getElem?_eq_getElem _⟩
      obtain ⟨q, hq⟩ : ∃ q, b[k]? = some q := ⟨b[k]'(by rw [Hyl.out]; exact hlt), List.getElem?_eq_getElem _⟩
      have hp9 := Da.out.at_ hp
      have hq9 := Db.out.at_ hq
      have hA : ((X[k]).toNat : Int) = 48 + p := by have h2 := HX.out; subst h2; exact dstr_at hp hp9 hlt
      have hB : ((Y[k]).toNat : Int) = 48 + q := by have h2 := HY.out; subst h2; exact dstr_at hq hq9 hlY
      have HT : Hid ((warnL a b)[k]? = some ((p + q) / 10)) := hd (warnL_at hp hq)
      obtain ⟨Av, hAv⟩ : ∃ Av : Int, ((X[k]).toNat : Int) = Av := ⟨_, rfl⟩
      obtain ⟨Bv, hBv⟩ : ∃ Bv : Int, ((Y[k]).toNat : Int) = Bv := ⟨_, rfl⟩
      rw [hAv] at hA
      rw [hBv] at hB
      obtain ⟨P, hP⟩ : ∃ P : Int, P = p := ⟨_, rfl⟩
      obtain ⟨S, hS⟩ : ∃ S : Int, S = p + 48 + q := ⟨_, rfl⟩
      obtain ⟨T, hT⟩ : ∃ T : Int, T = p + q := ⟨_, rfl⟩
      obtain ⟨R, hR⟩ : ∃ R : Int, R = ((p + q) / 10 : Nat) := ⟨_, rfl⟩
      obtain ⟨V, hV⟩ : ∃ V : Int, V = 48 + R := ⟨_, rfl⟩
      have t1 : IntKind.u8.wrap (Av - 48) = P := by simp only [IntKind.wrap, IntKind.bits, IntKind.signed]; simp; omega
      have t2 : IntKind.u8.wrap (P + Bv) = S := by simp only [IntKind.wrap, IntKind.bits, IntKind.signed]; simp; omega
      have t3 : IntKind.u8.wrap (S - 48) = T := by simp only [IntKind.wrap, IntKind.bits, IntKind.signed]; simp; omega
      obtain ⟨g', o, ho, hg', hco, hfo⟩ := Own.out.at_ (k := k) (by rw [Xl.out]; exact hlt)
      simp only [Option.some.injEq, Addr.mk.injEq, and_true] at hg'
      subst hg'
      have Own5 := hd (Own.out.set k 48)
      have Bw5 := hd (Bw.out.setCell (p := ⟨w.heap.size, k, none⟩) (Nat.le_refl _) (.int .u8 48))
      have Hl1 : Hid ((xs.set k 48).length = X.size) := hd (by rw [List.length_set]; exact Xl.out)
      obtain ⟨g2, o2, ho2, hg2, hco2, hfo2⟩ := Own5.out.at_ (k := k) (by rw [Hl1.out]; exact hlt)
      simp only [Option.some.injEq, Addr.mk.injEq, and_true] at hg2
      subst hg2
      by_cases hge : (10 : Int) ≤ T
      · have hge2 := hge
        have hr1 : (p + q) / 10 = 1 := by omega
        have Hn1 : Hid (((xs.set k 48).set k 49).take (k + 1) = ((warnL a b).map fun d : Nat => ((48 + d : Nat) : Int)).take (k + 1)) := hd (by rw [List.set_set]; exact take_set_succ (by rw [Xl.out]; exact hlt) Xt.out (by rw [List.getElem?_map, HT.out, hr1]; rfl))
        have Hl2 : Hid (((xs.set k 48).set k 49).length = X.size) := hd (by rw [List.length_set]; exact Hl1.out)
        clear hr1
        clear ho ho2 hp hq hA hB hP hS hT hR hV
        go_wp2
        go_quiet (fail)
        go_wp2
        go_roundw
        case rel => exact ⟨k + 1, _, by omega, by go_num, Hl2.out, Hn1.out, (Own5.out.drewN _).set k 49, (below_drewN Bw5.out _).setCell (p := ⟨w.heap.size, k, none⟩) (Nat.le_refl _) _⟩
        case measure => simp [intOf] <;> omega
      · have hge2 := hge
        have hr1 : (p + q) / 10 = 0 := by omega
        have Hn1 : Hid ((xs.set k 48).take (k + 1) = ((warnL a b).map fun d : Nat => ((48 + d : Nat) : Int)).take (k + 1)) := hd (take_set_succ (by rw [Xl.out]; exact hlt) Xt.out (by rw [List.getElem?_map, HT.out, hr1]; rfl))
        clear hr1
        clear ho ho2 hp hq hA hB hP hS hT hR hV
        go_wp2
        go_quiet (fail)
        go_wp2
        go_roundw
        case rel => exact ⟨k + 1, _, by omega, by go_num, Hl1.out, Hn1.out, Own5.out.drewN _, below_drewN Bw5.out _⟩
        case measure => simp [intOf] <;> omega
    · obtain rfl : k = X.size := by omega
      have Hx : Hid (xs = (warnL a b).map fun d : Nat => ((48 + d : Nat) : Int)) := hd (by
        have h3 := Xt.out
        rw [List.take_of_length_le (by rw [Xl.out]; exact Nat.le_refl _), List.take_of_length_le (by rw [List.length_map, Hl.out]; exact Nat.le_refl _)] at h3
        exact h3)
      have qS := run_dstr (src := 46) (dst := 9) (e := 5) Try.underlying46 Try.underlying5 Try.underlying9 Own.out Hx.out Hl.out H9.out
      rw [HZ.out] at qS
      go_wp2
      go_ret2
      exact ⟨rfl, Bw.out⟩

end Go.Proofs.Ytinhcdppdnmlgaa
