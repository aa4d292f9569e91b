/- CarriesOf of both sides. -/
import Derived.Test.YtinhcdppdnmlgaaTxZ
import Derived.IntWalk
namespace Go.Proofs.Ytinhcdppdnmlgaa
open Go.RowKit
set_option maxRecDepth 4000

theorem engV_pair {cs : List ByteArray} (h : engV cs = true) {x y : ByteArray} (hx : x ∈ cs) (hy : y ∈ cs) : colV x = true ∧ colV y = true ∧ x.size = y.size := by
  have h2 := (engV_iff.1 h).2
  exact ⟨(h2 x hx).1, (h2 y hy).1, (h2 x hx).2.trans (h2 y hy).2.symm⟩
/-- The loop's number and counter. -/
def CoR (cs : List ByteArray) (w1 : World) (m i : Value) (wr : World) : Prop := ∃ (k M : Nat), k + 1 ≤ cs.length ∧ i = .int .i64 k ∧ m = .int .i64 M ∧ M = carN cs k ∧ Below w1.heap.size w1 wr

set_option maxHeartbeats 3200000 in
theorem sCarriesOf_any (A : Option Addr) (c : Nat) (cs : List ByteArray) (w : World) (h : SS w A cs) (hs : Short cs) :
    Calls Try.prog 6 #[.agg #[.slice A cs.length c]] w fun e w' => e = .returned (.int .i64 (carV cs)) ∧ Below w.heap.size w w' := by
  have Hh := hd (h.alloc (.cells #[.slice A cs.length c] 27))
  have Hs := hd hs
  have C0 := hd (Cl.new w (.slice A cs.length c) 27)
  have hb0 : Below w.heap.size w (w.alloc (.cells #[.slice A cs.length c] 27)) := (Below.refl _ _).alloc (Nat.le_refl _) _
  clear h hs
  cases hv : engV cs
  · have Hv := hd hv
    have Hf := hd (carV_no hv)
    clear hv
    go_enter Try.func6, Try.ntmps6
    go_wp2_with fail
    refine (sEngineValid_b _ A c cs false _ rfl Hh.out Hs.out Hv.out).mono ?_
    rintro e w1 ⟨rfl, b1⟩
    have k1 := hb0.trans (b1.mono hb0.size)
    clear b1
    go_wp2
    go_ret
    exact ⟨ret_int Hf.out.symm, k1⟩
  · have Hv := hd hv
    have Hf := hd (carV_yes hv)
    obtain ⟨hl1, hl7⟩ := (engV_iff.1 hv).1
    have Hz := hd (engV_sizes hv)
    clear hv
    obtain ⟨b0, off0, hA, hlt0⟩ := Hh.out.nonempty (by omega)
    subst hA
    go_enter Try.func6, Try.ntmps6
    go_wp2_with fail
    refine (sEngineValid_b _ _ c cs true _ rfl Hh.out Hs.out Hv.out).mono ?_
    rintro e w1 ⟨rfl, b1⟩
    have K1 := hd (hb0.trans (b1.mono hb0.size))
    have C1 := hd (C0.out.below b1)
    have H1 := hd (Hh.out.below b1)
    have H0 : Hid (CoR cs w1 (.int .i64 0) (.int .i64 0) w1) := hd ⟨0, 0, by omega, rfl, rfl, rfl, Below.refl _ _⟩
    clear b1 hb0
    obtain ⟨c1, f1, -⟩ := C1.out
    go_wp2
    go_loopw [3, 4] (fun m i wr => CoR cs w1 m i wr) (fun _ i _ => cs.length - (intOf i).toNat)
    case atStart => exact H0.out
    case round =>
      clear H0 c1 f1
      obtain ⟨k, M, hk, rfl, rfl, hM, bw⟩ := hrel
      have Hm := hd hM
      have Bw := hd bw
      have C2 := hd (C1.out.below bw)
      have H2 := hd (H1.out.below bw)
      have hM12 : M ≤ 12 := by rw [hM]; exact carN_le Hz.out k (by omega)
      clear hM bw
      obtain ⟨c1, f1, -⟩ := C2.out
      have e1 : IntKind.i64.wrap ((k : Int) + 1) = (k : Int) + 1 := IntWalk.i64_in _ (by omega)
      have e2 : (0 : Int) ≤ (k : Int) + 1 := by omega
      have e3 : ((k : Int) + 1).toNat = k + 1 := by omega
      by_cases hlt : k + 1 < cs.length
      · have e4 : (k : Int) + 1 < cs.length := by omega
        have e5 : (k : Int) < cs.length := by omega
        have e6 : k < cs.length := by omega
        have e7 : (0 : Int) ≤ k := by omega
        obtain ⟨x, hx⟩ : ∃ x, cs[k]? = some x := ⟨cs[k], List.getElem?_eq_getElem e6⟩
        obtain ⟨y, hy⟩ : ∃ y, cs[k + 1]? = some y := ⟨cs[k + 1], List.getElem?_eq_getElem hlt⟩
        have Hx := hd hx
        have Hy := hd hy
        have Hp := hd (engV_pair Hv.out (List.mem_of_getElem? hx) (List.mem_of_getElem? hy))
        have hcx := (H2.out.cellT hx).1
        have hcy := (H2.out.cellT hy).1
        obtain ⟨T, HT⟩ : ∃ T, Hid (tmS x y = T) := ⟨_, hd rfl⟩
        have hT12 : T ≤ 12 := by rw [← HT.out]; exact tmS_le x y (Hz.out x (List.mem_of_getElem? hx))
        clear hx hy
        by_cases hMT : M < T
        · have hmx : M < T := hMT
          have hmi : (M : Int) < T := by omega
          have hmi2 : (M : Int) ≤ T := by omega
          have HM : Hid (carN cs (k + 1) = T) := hd (by rw [carN_succ Hx.out Hy.out, HT.out, ← Hm.out]; omega)
          go_wp2
          go_region_held3 (fun w' => w'.cell? ⟨w.heap.size, 0, none⟩ = some (.slice (some ⟨b0, off0, none⟩) cs.length c) ∧ w'.cell? ⟨b0, off0 + k, none⟩ = some (.string x) ∧ w'.cell? ⟨b0, off0 + (k + 1), none⟩ = some (.string y)) (first | exact ⟨c1, hcx, hcy⟩ | go_keep) (first | (go_simp; go_at_call 14; refine (sCarryTimes_d x y T wr.drew Hp.out.1 Hp.out.2.1 Hp.out.2.2 HT.out).mono ?_; rintro e w4 ⟨rfl, b4⟩; have Bw4 := hd (Bw.out.drew.trans (b4.mono Bw.out.size)); have C3 := hd (C2.out.drew.below b4); have H3 := hd (H2.out.drew.below b4); clear b4 c1 f1 hcx hcy; obtain ⟨c1, f1, -⟩ := C3.out; have hcx := (H3.out.cellT Hx.out).1; have hcy := (H3.out.cellT Hy.out).1))
          all_goals
            go_wp2
            go_roundw
            case rel => exact ⟨k + 1, T, by omega, by go_num, by rw [Int.max_eq_right (by omega)], HM.out.symm, Bw4.out⟩
            case measure => simp [intOf] <;> omega
        · have hmx : ¬ M < T := hMT
          have hmi : ¬ (M : Int) < T := by omega
          have hmi2 : (T : Int) ≤ M := by omega
          have HM : Hid (carN cs (k + 1) = M) := hd (by rw [carN_succ Hx.out Hy.out, HT.out, ← Hm.out]; omega)
          go_wp2
          go_region_held3 (fun w' => w'.cell? ⟨w.heap.size, 0, none⟩ = some (.slice (some ⟨b0, off0, none⟩) cs.length c) ∧ w'.cell? ⟨b0, off0 + k, none⟩ = some (.string x) ∧ w'.cell? ⟨b0, off0 + (k + 1), none⟩ = some (.string y)) (first | exact ⟨c1, hcx, hcy⟩ | go_keep) (first | (go_simp; go_at_call 14; refine (sCarryTimes_d x y T wr.drew Hp.out.1 Hp.out.2.1 Hp.out.2.2 HT.out).mono ?_; rintro e w4 ⟨rfl, b4⟩; have Bw4 := hd (Bw.out.drew.trans (b4.mono Bw.out.size)); have C3 := hd (C2.out.drew.below b4); have H3 := hd (H2.out.drew.below b4); clear b4 c1 f1 hcx hcy; obtain ⟨c1, f1, -⟩ := C3.out; have hcx := (H3.out.cellT Hx.out).1; have hcy := (H3.out.cellT Hy.out).1))
          all_goals
            go_wp2
            go_roundw
            case rel => exact ⟨k + 1, M, by omega, by go_num, by rw [Int.max_eq_left (by omega)], HM.out.symm, Bw4.out⟩
            case measure => simp [intOf] <;> omega
      · have e4 : ¬ (k : Int) + 1 < cs.length := by omega
        have Hd : Hid ((M : Int) = carV cs) := hd (by rw [Hf.out, show cs.length - 1 = k by omega, ← Hm.out])
        have Kf := hd (K1.out.trans (Bw.out.mono K1.out.size))
        go_wp2
        go_ret
        exact ⟨ret_int Hd.out, Kf.out⟩

theorem sCarriesOf_z (A : Option Addr) (c n : Nat) (cs : List ByteArray) (z : Int) (w : World) (hn : cs.length = n) (h : SS w A cs) (hs : Short cs) (hz : carV cs = z) :
    Calls Try.prog 6 #[.agg #[.slice A n c]] w fun e w' => e = .returned (.int .i64 z) ∧ Below w.heap.size w w' := by
  subst hn hz; exact sCarriesOf_any A c cs w h hs

set_option maxHeartbeats 3200000 in
theorem CarriesOf_any (A : Option Addr) (c : Nat) (cs : List ByteArray) (w : World) (h : SS w A cs) (hs : Short cs) :
    Calls Try.prog 8 #[.agg #[.slice A cs.length c]] w fun e w' => e = .returned (.int .i64 (carV cs)) ∧ Below w.heap.size w w' := by
  have Hh := hd (h.alloc (.cells #[.slice A cs.length c] 27))
  have Hs := hd hs
  have C0 := hd (Cl.new w (.slice A cs.length c) 27)
  have hb0 : Below w.heap.size w (w.alloc (.cells #[.slice A cs.length c] 27)) := (Below.refl _ _).alloc (Nat.le_refl _) _
  clear h hs
  cases hv : engV cs
  · have Hv := hd hv
    have Hf := hd (carV_no hv)
    clear hv
    go_enter Try.func8, Try.ntmps8
    go_wp2_with fail
    refine (EngineValid_b _ A c cs false _ rfl Hh.out Hs.out Hv.out).mono ?_
    rintro e w1 ⟨rfl, b1⟩
    have k1 := hb0.trans (b1.mono hb0.size)
    clear b1
    go_wp2
    go_ret
    exact ⟨ret_int Hf.out.symm, k1⟩
  · have Hv := hd hv
    have Hf := hd (carV_yes hv)
    obtain ⟨hl1, hl7⟩ := (engV_iff.1 hv).1
    have Hz := hd (engV_sizes hv)
    clear hv
    obtain ⟨b0, off0, hA, hlt0⟩ := Hh.out.nonempty (by omega)
    subst hA
    go_enter Try.func8, Try.ntmps8
    go_wp2_with fail
    refine (EngineValid_b _ _ c cs true _ rfl Hh.out Hs.out Hv.out).mono ?_
    rintro e w1 ⟨rfl, b1⟩
    have K1 := hd (hb0.trans (b1.mono hb0.size))
    have C1 := hd (C0.out.below b1)
    have H1 := hd (Hh.out.below b1)
    have H0 : Hid (CoR cs w1 (.int .i64 0) (.int .i64 0) w1) := hd ⟨0, 0, by omega, rfl, rfl, rfl, Below.refl _ _⟩
    clear b1 hb0
    obtain ⟨c1, f1, -⟩ := C1.out
    go_wp2
    go_loopw [3, 4] (fun m i wr => CoR cs w1 m i wr) (fun _ i _ => cs.length - (intOf i).toNat)
    case atStart => exact H0.out
    case round =>
      clear H0 c1 f1
      obtain ⟨k, M, hk, rfl, rfl, hM, bw⟩ := hrel
      have Hm := hd hM
      have Bw := hd bw
      have C2 := hd (C1.out.below bw)
      have H2 := hd (H1.out.below bw)
      have hM12 : M ≤ 12 := by rw [hM]; exact carN_le Hz.out k (by omega)
      clear hM bw
      obtain ⟨c1, f1, -⟩ := C2.out
      have e1 : IntKind.i64.wrap ((k : Int) + 1) = (k : Int) + 1 := IntWalk.i64_in _ (by omega)
      have e2 : (0 : Int) ≤ (k : Int) + 1 := by omega
      have e3 : ((k : Int) + 1).toNat = k + 1 := by omega
      by_cases hlt : k + 1 < cs.length
      · have e4 : (k : Int) + 1 < cs.length := by omega
        have e5 : (k : Int) < cs.length := by omega
        have e6 : k < cs.length := by omega
        have e7 : (0 : Int) ≤ k := by omega
        obtain ⟨x, hx⟩ : ∃ x, cs[k]? = some x := ⟨cs[k], List.getElem?_eq_getElem e6⟩
        obtain ⟨y, hy⟩ : ∃ y, cs[k + 1]? = some y := ⟨cs[k + 1], List.getElem?_eq_getElem hlt⟩
        have Hx := hd hx
        have Hy := hd hy
        have Hp := hd (engV_pair Hv.out (List.mem_of_getElem? hx) (List.mem_of_getElem? hy))
        have hcx := (H2.out.cellT hx).1
        have hcy := (H2.out.cellT hy).1
        obtain ⟨T, HT⟩ : ∃ T, Hid (tmS x y = T) := ⟨_, hd rfl⟩
        have hT12 : T ≤ 12 := by rw [← HT.out]; exact tmS_le x y (Hz.out x (List.mem_of_getElem? hx))
        clear hx hy
        by_cases hMT : M < T
        · have hmx : M < T := hMT
          have hmi : (M : Int) < T := by omega
          have hmi2 : (M : Int) ≤ T := by omega
          have HM : Hid (carN cs (k + 1) = T) := hd (by rw [carN_succ Hx.out Hy.out, HT.out, ← Hm.out]; omega)
          go_wp2
          go_region_held3 (fun w' => w'.cell? ⟨w.heap.size, 0, none⟩ = some (.slice (some ⟨b0, off0, none⟩) cs.length c) ∧ w'.cell? ⟨b0, off0 + k, none⟩ = some (.string x) ∧ w'.cell? ⟨b0, off0 + (k + 1), none⟩ = some (.string y)) (first | exact ⟨c1, hcx, hcy⟩ | go_keep) (first | (go_simp; go_at_call 17; refine (CarryTimes_d x y T wr.drew Hp.out.1 Hp.out.2.1 Hp.out.2.2 HT.out).mono ?_; rintro e w4 ⟨rfl, b4⟩; have Bw4 := hd (Bw.out.drew.trans (b4.mono Bw.out.size)); have C3 := hd (C2.out.drew.below b4); have H3 := hd (H2.out.drew.below b4); clear b4 c1 f1 hcx hcy; obtain ⟨c1, f1, -⟩ := C3.out; have hcx := (H3.out.cellT Hx.out).1; have hcy := (H3.out.cellT Hy.out).1))
          all_goals
            go_wp2
            go_roundw
            case rel => exact ⟨k + 1, T, by omega, by go_num, by rw [Int.max_eq_right (by omega)], HM.out.symm, Bw4.out⟩
            case measure => simp [intOf] <;> omega
        · have hmx : ¬ M < T := hMT
          have hmi : ¬ (M : Int) < T := by omega
          have hmi2 : (T : Int) ≤ M := by omega
          have HM : Hid (carN cs (k + 1) = M) := hd (by rw [carN_succ Hx.out Hy.out, HT.out, ← Hm.out]; omega)
          go_wp2
          go_region_held3 (fun w' => w'.cell? ⟨w.heap.size, 0, none⟩ = some (.slice (some ⟨b0, off0, none⟩) cs.length c) ∧ w'.cell? ⟨b0, off0 + k, none⟩ = some (.string x) ∧ w'.cell? ⟨b0, off0 + (k + 1), none⟩ = some (.string y)) (first | exact ⟨c1, hcx, hcy⟩ | go_keep) (first | (go_simp; go_at_call 17; refine (CarryTimes_d x y T wr.drew Hp.out.1 Hp.out.2.1 Hp.out.2.2 HT.out).mono ?_; rintro e w4 ⟨rfl, b4⟩; have Bw4 := hd (Bw.out.drew.trans (b4.mono Bw.out.size)); have C3 := hd (C2.out.drew.below b4); have H3 := hd (H2.out.drew.below b4); clear b4 c1 f1 hcx hcy; obtain ⟨c1, f1, -⟩ := C3.out; have hcx := (H3.out.cellT Hx.out).1; have hcy := (H3.out.cellT Hy.out).1))
          all_goals
            go_wp2
            go_roundw
            case rel => exact ⟨k + 1, M, by omega, by go_num, by rw [Int.max_eq_left (by omega)], HM.out.symm, Bw4.out⟩
            case measure => simp [intOf] <;> omega
      · have e4 : ¬ (k : Int) + 1 < cs.length := by omega
        have Hd : Hid ((M : Int) = carV cs) := hd (by rw [Hf.out, show cs.length - 1 = k by omega, ← Hm.out])
        have Kf := hd (K1.out.trans (Bw.out.mono K1.out.size))
        go_wp2
        go_ret
        exact ⟨ret_int Hd.out, Kf.out⟩

theorem CarriesOf_z (A : Option Addr) (c n : Nat) (cs : List ByteArray) (z : Int) (w : World) (hn : cs.length = n) (h : SS w A cs) (hs : Short cs) (hz : carV cs = z) :
    Calls Try.prog 8 #[.agg #[.slice A n c]] w fun e w' => e = .returned (.int .i64 z) ∧ Below w.heap.size w w' := by
  subst hn hz; exact CarriesOf_any A c cs w h hs

end Go.Proofs.Ytinhcdppdnmlgaa
