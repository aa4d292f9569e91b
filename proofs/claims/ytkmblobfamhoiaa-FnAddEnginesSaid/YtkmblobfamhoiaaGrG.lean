/- Merged out of the texts SpeM SpeN SpeO. -/
import Derived.Test.YtkmblobfamhoiaaGrF
import Derived.Test.YtkmblobfamhoiaaGrD
import Derived.Test.YtkmblobfamhoiaaGrE
/- Contracts of the reference's functions on columns. -/
namespace Go.Proofs.Ytkmblobfamhoiaa
open Go.RowKit
set_option maxRecDepth 4000

theorem l1Width_any (n : Int) (w : World) :
    Calls Try.prog 114 #[.int .i64 n] w fun e w' => e = .returned (.bool (wV n)) ∧ w = w' := by
  go_enter Try.func114, Try.ntmps114
  go_wp2_with (go_at_call 96; refine (l1In_any n 1 12 _).mono ?_; rintro e w' ⟨rfl, rfl⟩)
  go_ret
  exact ⟨rfl, rfl⟩

theorem l1Ten_any (k : Nat) (w : World) (hk : k ≤ 12) :
    Calls Try.prog 134 #[.int .i64 k] w fun e w' => e = .returned (.int .i64 (ten k)) ∧ w' = w := by
  go_enter Try.func134, Try.ntmps134
  go_wp2
  go_loop [3, 4] (fun r i => ∃ j : Nat, j ≤ k ∧ i = .int .i64 j ∧ r = .int .i64 (ten j)) (fun _ i => k - (intOf i).toNat)
  case atStart => exact ⟨0, by omega, rfl, rfl⟩
  case round =>
    obtain ⟨j, hj, rfl, rfl⟩ := hrel
    by_cases hlt : j < k
    · obtain ⟨hb1, hb2⟩ := ten_bd (j + 1) (by omega)
      have HS := hd (ten_succ j)
      rw [HS.out] at hb1 hb2
      go_wp2
      go_round
      case rel => exact ⟨j + 1, by omega, by go_num, by rw [HS.out]⟩
      case measure => simp [intOf] <;> omega
    · obtain rfl : j = k := by omega
      go_wp2
      go_ret
      exact ⟨rfl, rfl⟩

theorem l1Ten_w (k : Nat) (w : World) (hk : k ≤ 12) :
    Calls Try.prog 134 #[.int .i64 k] w fun e w' => e = .returned (.int .i64 (ten k)) ∧ w = w' :=
  (l1Ten_any k w hk).mono fun _ _ ⟨h1, h2⟩ => ⟨h1, h2.symm⟩

set_option maxHeartbeats 400000 in
theorem sColumnValid_any (s : ByteArray) (w : World) (hs : s.size ≤ 17592186044416) :
    Calls Try.prog 142 #[.string s] w fun e w' => e = .returned (.bool (colV s)) ∧ w' = w := by
  go_enter Try.func142, Try.ntmps142
  go_wp2
  go_loop [3] (fun i => ∃ k : Nat, k ≤ s.size ∧ i = .int .i64 k ∧ (s.data.toList.take k).all isDig = true) (fun i => s.size - (intOf i).toNat)
  case atStart => exact ⟨0, by omega, rfl, by simp⟩
  case round =>
    obtain ⟨k, hk, rfl, ht⟩ := hrel
    have Ht := hd ht
    clear ht
    by_cases hlt : k < s.size
    · have Hts := hd (str_take s k hlt)
      by_cases hd1 : 48 ≤ (s[k].toNat : Int)
      · by_cases hd2 : (s[k].toNat : Int) ≤ 57
        · have Hn : Hid ((s.data.toList.take (k + 1)).all isDig = true) := hd (by
            rw [Hts.out, List.all_append, Ht.out]
            simp [isDig_of, hd1, hd2])
          go_wp2
          go_round
          case rel => exact ⟨k + 1, by omega, by go_num, Hn.out⟩
          case measure => simp [intOf] <;> omega
        · have Hn : Hid (colV s = false) := hd (by
            rw [colV_wV, all_false_of isDig _ k _ (str_at s k hlt) (by simp [isDig_of, hd2])]; simp)
          go_wp2
          go_ret
          exact ⟨ret_bool Hn.out.symm, rfl⟩
      · have Hn : Hid (colV s = false) := hd (by
          rw [colV_wV, all_false_of isDig _ k _ (str_at s k hlt) (by simp [isDig_of, hd1])]; simp)
        go_wp2
        go_ret
        exact ⟨ret_bool Hn.out.symm, rfl⟩
    · have hke : k = s.size := by omega
      have Hn : Hid (wV s.size = colV s) := hd (by
        have := Ht.out
        rw [hke, List.take_of_length_le (by rw [str_len]; exact Nat.le_refl _)] at this
        rw [colV_wV, this]; simp)
      clear hke
      go_wp2_with fail
      refine (l1Width_any s.size _).mono ?_
      rintro e w' ⟨rfl, rfl⟩
      go_wp2
      go_ret
      exact ⟨ret_bool Hn.out, rfl⟩

theorem sColV (s : ByteArray) (b : Bool) (w : World) (hs : s.size ≤ 17592186044416) (hb : colV s = b) :
    Calls Try.prog 142 #[.string s] w fun e w' => e = .returned (.bool b) ∧ w' = w := by
  subst hb; exact sColumnValid_any s w hs

theorem tmod_twice (n m : Int) (hm : 0 < m) : (n.tmod m + m).tmod m = n % m := by
  have hb1 : -m < n.tmod m := Int.lt_tmod_of_pos _ hm
  have h := tmod_emod n m hm
  have h1 := Int.emod_nonneg n (by omega : m ≠ 0)
  have h2 := Int.emod_lt_of_pos n hm
  rw [Int.tmod_eq_emod_of_nonneg (by omega)]
  split at h
  · rw [h]; exact Int.emod_eq_of_lt h1 h2
  · rw [Int.add_emod_right, h]; exact Int.emod_eq_of_lt h1 h2

set_option maxHeartbeats 1600000 in
theorem l1Show_any (n : Int) (W : Nat) (w : World) (hW : W ≤ 12) :
    Calls Try.prog 140 #[.int .i64 n, .int .i64 W] w fun e w' => e = .returned (.string (showC W n)) ∧ Below w.heap.size w w' := by
  obtain ⟨i0, hi, hz0, hz1, hz2⟩ := info_parts infoB
  obtain ⟨ht1, ht2⟩ := ten_bd W hW
  have Htw := hd (tmod_twice n (ten W) (by omega))
  have hb1 : -ten W < n.tmod (ten W) := Int.lt_tmod_of_pos _ (by omega)
  have hb2 : n.tmod (ten W) < ten W := Int.tmod_lt_of_pos _ (by omega)
  obtain ⟨t, Ht⟩ : ∃ t, Hid (n.tmod (ten W) = t) := ⟨_, hd rfl⟩
  rw [Ht.out] at hb1 hb2 Htw
  have hm := mod_bd W n
  obtain ⟨v, hv⟩ := Int.eq_ofNat_of_zero_le hm.1
  have Hv : Hid (n % ten W = (v : Int)) := hd hv
  rw [Hv.out] at Htw
  have Hvl : Hid (v < 10 ^ W) := hd (by have := hm.2; rw [hv] at this; unfold ten at this; omega)
  have Hsh : Hid (showC W n = showC W v) := hd (by rw [← hv, showC_mod])
  have hvb : v < 1000000000000 := by
    have := hm.2
    omega
  clear hm hv
  rw [Hsh.out]
  have hT := Ht.out
  have hT2 := Htw.out
  have hm0 : ¬ ten W = 0 := by omega
  have hm1 : ¬ ten W = -1 := by omega
  have e0 : IntKind.i64.wrap (t + ten W) = t + ten W := IntWalk.i64_in _ (by omega)
  go_enter Try.func140, Try.ntmps140
  go_wp2
  go_quiet ((go_at_call 134; exact Calls.quiet_of_same (l1Ten_any W _ hW)))
  clear hT hT2 e0
  go_wp2_with (at_make; refine wpList_make_full _ rfl _ _ 22 rfl (w.drewN nq).heap.size 5 i0 (.int .u8 0) 1 Try.underlying22 hi hz0 hz1 .i64 .i64 _ _ W rfl rfl rfl rfl (by rw [hz2]; omega) (by unfold maxLen; omega) (Nat.le_refl _) ?_; intro w1 hown hgrow)
  have Hown0 : Hid (OwnB 5 w.heap.size w1 (some ⟨w.heap.size, 0, none⟩) W (List.replicate W 0)) := hd (OwnG.made 0 rfl hown (by omega))
  have Hbel0 : Hid (Below w.heap.size w w1) := hd ((below_drewN (Below.refl _ _) nq).grown hgrow (Nat.le_refl _) (by simp))
  clear hown hgrow
  go_loopw [0, 6] (fun x i wr => ∃ (j : Nat) (xs : List Int), j ≤ W ∧ i = .int .i64 ((W : Int) - 1 - j) ∧ x = .int .i64 ((v / 10 ^ j : Nat) : Int) ∧ xs.length = W ∧ xs.drop (W - j) = (tab W fun m => dgt W v m).drop (W - j) ∧ OwnB 5 w.heap.size wr (some ⟨w.heap.size, 0, none⟩) W xs ∧ Below w.heap.size w wr)
    (fun _ i _ => (intOf i + 1).toNat)
  case atStart => exact ⟨0, List.replicate W 0, by omega, by simp, by simp, by simp, by rw [List.drop_eq_nil_of_le (by simp), List.drop_eq_nil_of_le (by rw [tab_length]; omega)], Hown0.out, Hbel0.out⟩
  case round =>
    clear Hown0 Hbel0
    obtain ⟨j, xs, hj, rfl, rfl, hxl, hxd, hown, hbel⟩ := hrel
    have Hxl := hd hxl
    have Hxd := hd hxd
    have Hown := hd hown
    have Hbel := hd hbel
    clear hxl hxd hown hbel
    obtain ⟨q, Hq⟩ : ∃ q, Hid (v / 10 ^ j = q) := ⟨_, hd rfl⟩
    rw [Hq.out]
    have hqb : q ≤ v := by rw [← Hq.out]; exact Nat.div_le_self _ _
    by_cases hlt : j < W
    · obtain ⟨l, hl⟩ : ∃ l, l + 1 + j = W := ⟨W - 1 - j, by omega⟩
      have hlW : l < W := by omega
      have ei : (W : Int) - 1 - j = (l : Int) := by omega
      rw [ei]
      obtain ⟨g, x, hx, hg, hc, hf⟩ := Hown.out.at_ (k := l) (by rw [Hxl.out]; exact hlW)
      simp only [Option.some.injEq, Addr.mk.injEq, and_true] at hg
      subst hg
      have Hnx : Hid (v / 10 ^ (j + 1) = q / 10) := hd (by rw [Nat.pow_succ, ← Nat.div_div_eq_div_mul, Hq.out])
      have Hdg : Hid (dgt W v l = ((48 + q % 10 : Nat) : Int)) := hd (by rw [dgt, show W - 1 - l = j by omega, Hq.out])
      have e1 : IntKind.u8.wrap (48 + (q : Int) % 10) = 48 + (q : Int) % 10 := by
        simp only [IntKind.wrap, IntKind.bits, IntKind.signed]
        simp
        omega
      have hll : ¬ (l : Int) < 0 := by omega
      clear hx ei
      go_wp2
      go_roundw
      case rel =>
        refine ⟨j + 1, xs.set l (48 + (q : Int) % 10), by omega, by go_num, by rw [Hnx.out]; rfl, by rw [List.length_set]; exact Hxl.out, ?_, Hown.out.set l _, Hbel.out.setCell (Nat.le_refl _) _⟩
        exact show_step Hxl.out Hxd.out hlW (by omega) (by omega) Hdg.out
      case measure => simp [intOf] <;> omega
    · obtain rfl : j = W := by omega
      have Hx : Hid (xs = tab j fun m => dgt j v m) := hd (by
        have := Hxd.out
        rwa [Nat.sub_self, List.drop_zero, List.drop_zero] at this)
      have ei : (j : Int) - 1 - j = -1 := by omega
      rw [ei]
      have qS := run_str (src := 22) (dst := 9) (e := 5) Try.underlying22 Try.underlying5 Try.underlying9 Hown.out Hx.out Hvl.out
      go_wp2
      go_ret
      exact ⟨rfl, Hbel.out⟩

theorem l1Show_c (n x : Int) (W : Nat) (w : World) (hW : W ≤ 12) (hx : n % ten W = x % ten W) :
    Calls Try.prog 140 #[.int .i64 n, .int .i64 W] w fun e w' => e = .returned (.string (showC W x)) ∧ Below w.heap.size w w' := by
  rw [← showC_congr hx]; exact l1Show_any n W w hW

end Go.Proofs.Ytkmblobfamhoiaa

/- Contracts of the reference's functions on columns and on engines: values, sums, validity. -/
namespace Go.Proofs.Ytkmblobfamhoiaa
open Go.RowKit
set_option maxRecDepth 4000

set_option maxHeartbeats 400000 in
theorem l1Value_yes (s : ByteArray) (w : World) (hv : colV s = true) :
    Calls Try.prog 133 #[.string s] w fun e w' => e = .returned (.int .i64 (cval s)) ∧ w' = w := by
  obtain ⟨⟨h1, h12⟩, hdg⟩ := colV_iff.1 hv
  have Hdg := hd hdg
  clear hv hdg
  go_enter Try.func133, Try.ntmps133
  go_wp2
  go_loop [3, 4] (fun x i => ∃ k : Nat, k ≤ s.size ∧ i = .int .i64 k ∧ x = .int .i64 (dval (s.data.toList.take k))) (fun _ i => s.size - (intOf i).toNat)
  case atStart => exact ⟨0, by omega, rfl, by simp [dval]⟩
  case round =>
    obtain ⟨k, hk, rfl, rfl⟩ := hrel
    obtain ⟨x, Hx⟩ : ∃ x, Hid (dval (s.data.toList.take k) = x) := ⟨_, hd rfl⟩
    rw [Hx.out]
    have hb : 0 ≤ x ∧ x ≤ 1000000000000 := by
      have h2 := dval_nonneg (s.data.toList.take k) (by
        rw [List.all_eq_true]
        intro b hb
        exact List.all_eq_true.1 Hdg.out b (List.mem_of_mem_take hb))
      rw [Hx.out, List.length_take, str_len, Nat.min_eq_left hk] at h2
      have h3 := ten_bd k (by omega)
      unfold ten at h3
      omega
    obtain ⟨hb1, hb2⟩ := hb
    by_cases hlt : k < s.size
    · have HS := hd (dval_take s k hlt)
      rw [Hx.out] at HS
      have hdk : 48 ≤ (s[k].toNat : Int) ∧ (s[k].toNat : Int) ≤ 57 := by
        have := List.all_eq_true.1 Hdg.out _ (List.mem_of_getElem? (str_at s k hlt))
        rw [isDig_of] at this
        simpa using this
      obtain ⟨hd1, hd2⟩ := hdk
      go_wp2
      go_round
      case rel => exact ⟨k + 1, by omega, by go_num, by rw [HS.out]; go_num⟩
      case measure => simp [intOf]; omega
    · have Hf : Hid (x = cval s) := hd (by
        have h2 := Hx.out
        rw [List.take_of_length_le (by rw [str_len]; omega)] at h2
        exact h2.symm)
      go_wp2
      go_ret
      exact ⟨ret_int Hf.out, rfl⟩

theorem l1Value_c (W : Nat) (x v : Int) (w : World) (h1 : 1 ≤ W) (h12 : W ≤ 12) (hv : x % ten W = v) :
    Calls Try.prog 133 #[.string (showC W x)] w fun e w' => e = .returned (.int .i64 v) ∧ w' = w := by
  subst hv
  have := l1Value_yes (showC W x) w (colV_showC x h1 h12)
  rwa [cval_showC] at this
theorem l1Value_w (W : Nat) (x v : Int) (w : World) (h1 : 1 ≤ W) (h12 : W ≤ 12) (hv : x % ten W = v) :
    Calls Try.prog 133 #[.string (showC W x)] w fun e w' => e = .returned (.int .i64 v) ∧ w = w' :=
  (l1Value_c W x v w h1 h12 hv).mono fun _ _ ⟨a, b⟩ => ⟨a, b.symm⟩

/-- A string is returned; nothing that was there before has changed. -/
def RetS (w : World) (s : ByteArray) (e : Ending) (w' : World) : Prop := e = .returned (.string s) ∧ Below w.heap.size w w'

set_option maxHeartbeats 800000 in
theorem l3Plus_c (W : Nat) (x y : Int) (w : World) (h1 : 1 ≤ W) (h12 : W ≤ 12) :
    Calls Try.prog 90 #[.string (showC W x), .string (showC W y)] w fun e w' => RetS w (showC W (x + y)) e w' := by
  obtain ⟨u, Hu⟩ : ∃ u, Hid (x % ten W = u) := ⟨_, hd rfl⟩
  obtain ⟨v, Hv⟩ : ∃ v, Hid (y % ten W = v) := ⟨_, hd rfl⟩
  have hu := mod_bd W x
  have hv := mod_bd W y
  rw [Hu.out] at hu
  rw [Hv.out] at hv
  have ht := ten_bd W h12
  obtain ⟨hu1, hu2⟩ := hu
  obtain ⟨hv1, hv2⟩ := hv
  obtain ⟨ht1, ht2⟩ := ht
  have hsz : Hid ((showC W x).size = W) := hd (showC_size W x)
  have Hs : Hid ((u + v) % ten W = (x + y) % ten W) := hd (by rw [← Hu.out, ← Hv.out, add_mod_show])
  go_enter Try.func90, Try.ntmps90
  go_wp2_with fail
  refine (l1Value_w W x u _ h1 h12 Hu.out).mono ?_
  rintro e w' ⟨rfl, rfl⟩
  go_wp2_with fail
  refine (l1Value_w W y v _ h1 h12 Hv.out).mono ?_
  rintro e w' ⟨rfl, rfl⟩
  go_wp2_with fail
  rw [hsz.out]
  refine (l1Show_c (u + v) (x + y) W _ h12 Hs.out).mono ?_
  rintro e w' ⟨rfl, bb⟩
  go_wp2
  go_ret
  exact ⟨rfl, bb⟩

set_option maxHeartbeats 800000 in
theorem l3Minus_c (W : Nat) (x y : Int) (w : World) (h1 : 1 ≤ W) (h12 : W ≤ 12) :
    Calls Try.prog 153 #[.string (showC W x), .string (showC W y)] w fun e w' => RetS w (showC W (x - y)) e w' := by
  obtain ⟨u, Hu⟩ : ∃ u, Hid (x % ten W = u) := ⟨_, hd rfl⟩
  obtain ⟨v, Hv⟩ : ∃ v, Hid (y % ten W = v) := ⟨_, hd rfl⟩
  have hu := mod_bd W x
  have hv := mod_bd W y
  rw [Hu.out] at hu
  rw [Hv.out] at hv
  have ht := ten_bd W h12
  obtain ⟨hu1, hu2⟩ := hu
  obtain ⟨hv1, hv2⟩ := hv
  obtain ⟨ht1, ht2⟩ := ht
  have hsz : Hid ((showC W x).size = W) := hd (showC_size W x)
  have Hs : Hid ((u - v) % ten W = (x - y) % ten W) := hd (by rw [← Hu.out, ← Hv.out, sub_mod_show])
  go_enter Try.func153, Try.ntmps153
  go_wp2_with fail
  refine (l1Value_w W x u _ h1 h12 Hu.out).mono ?_
  rintro e w' ⟨rfl, rfl⟩
  go_wp2_with fail
  refine (l1Value_w W y v _ h1 h12 Hv.out).mono ?_
  rintro e w' ⟨rfl, rfl⟩
  go_wp2_with fail
  rw [hsz.out]
  refine (l1Show_c (u - v) (x - y) W _ h12 Hs.out).mono ?_
  rintro e w' ⟨rfl, bb⟩
  go_wp2
  go_ret
  exact ⟨rfl, bb⟩

/-- What the reference asks of each column. -/
def okC (m : Nat) (c : ByteArray) : Bool := colV c && decide (c.size = m)

theorem quiet_more {P : Program} {f : FuncId} {args : Array Value} {w : World} {a n : Nat} {v : Value} (h : Calls P f args (w.drewN (a + n)) fun e w' => e = .returned v ∧ w' = w.drewN (a + n)) :
    Calls P f args (w.drewN (a + n)) fun e w' => e = .returned v ∧ ∃ m, w' = w.drewN (a + m) :=
  h.mono fun _ _ ⟨h1, h2⟩ => ⟨h1, n, h2⟩

theorem sColV_q (s : ByteArray) (b : Bool) (w : World) (hs : s.size ≤ 1048576) (hb : colV s = b) :
    Calls Try.prog 142 #[.string s] w fun e w' => e = .returned (.bool b) ∧ w' = w := by
  subst hb; exact sColumnValid_any s w (by omega)

set_option maxHeartbeats 1600000 in
theorem sEngineValid_any (A : Option Addr) (c : Nat) (cs : List ByteArray) (w : World) (h : SS w A cs) (hs : Short cs) :
    Calls Try.prog 89 #[.agg #[.slice A cs.length c]] w fun e w' => e = .returned (.bool (engV cs)) ∧ Below w.heap.size w w' := by
  have Hh := hd h
  have hl := h.len
  have Hs := hd hs
  have Hbx : Hid (Below w.heap.size w (w.alloc (.cells #[.slice A cs.length c] 36))) := hd ((Below.refl _ _).alloc (Nat.le_refl _) _)
  have Hf : Hid (engV cs = (in2 cs.length 1 7 && cs.all (okC (hsz cs)))) := hd (by
    rw [engV]
    congr 1
    rw [Bool.eq_iff_iff]
    simp [in2]
    omega)
  clear h hs
  go_enter Try.func89, Try.ntmps89
  go_wp2
  go_loopw [3] (fun i wr => ∃ k md : Nat, k ≤ cs.length ∧ i = .int .i64 k ∧ (cs.take k).all (okC (hsz cs)) = true ∧ wr = (w.alloc (.cells #[.slice A cs.length c] 36)).drewN md) (fun i _ => cs.length - (intOf i).toNat)
  case atStart => exact ⟨0, 0, by omega, rfl, by simp, rfl⟩
  case round =>
    obtain ⟨k, md, hk, rfl, ht, rfl⟩ := hrel
    have Ht := hd ht
    have Hbl := hd (below_drewN Hbx.out md)
    clear ht
    by_cases hlt : k < cs.length
    · obtain ⟨x, b, off, hx, hA, hb, hc0⟩ := Hh.out.at_ (k := 0) (by omega)
      subst hA
      rw [Nat.add_zero] at hc0
      have Hxz : Hid (hsz cs = x.size) := hd (by
        rw [hsz]
        cases cs with
        | nil => simp at hx
        | cons c r => simp at hx; rw [hx]; rfl)
      clear hx
      obtain ⟨y, b', off', hy, he, hb', hc⟩ := Hh.out.at_ hlt
      simp only [Option.some.injEq, Addr.mk.injEq, and_true] at he
      obtain ⟨rfl, rfl⟩ := he
      have hys := Hs.out y (List.mem_of_getElem? hy)
      have Hy := hd hy
      clear hy
      cases hcv : colV y
      · have Hcv := hd hcv
        have Hg : Hid (engV cs = false) := hd (by rw [Hf.out, all_false_of (okC (hsz cs)) cs k y Hy.out (by simp [okC, hcv])]; simp)
        clear hcv
        go_wp2
        go_quiet ((go_at_call 142; exact quiet_more (sColV_q y false _ hys Hcv.out)))
        go_wp2
        go_ret
        exact ⟨ret_bool Hg.out.symm, below_drewN Hbl.out _⟩
      · have Hcv := hd hcv
        clear hcv
        by_cases hsz' : y.size = x.size
        · have e1 : ((y.size : Int) != x.size) = false := by simp [hsz']
          have Hok : Hid (okC (hsz cs) y = true) := hd (by simp [okC, Hcv.out, Hxz.out, hsz'])
          clear hsz'
          go_wp2
          go_quiet ((go_at_call 142; exact quiet_more (sColV_q y true _ hys Hcv.out)))
          go_wp2
          go_roundw
          case rel => exact ⟨k + 1, _, by omega, by go_num, all_take_succ _ _ _ _ Hy.out Ht.out Hok.out, rfl⟩
          case measure => simp [intOf]; omega
        · have e1 : ((y.size : Int) != x.size) = true := by simp; omega
          have Hg : Hid (engV cs = false) := hd (by rw [Hf.out, all_false_of (okC (hsz cs)) cs k y Hy.out (by simp [okC, Hxz.out, hsz'])]; simp)
          clear hsz'
          go_wp2
          go_quiet ((go_at_call 142; exact quiet_more (sColV_q y true _ hys Hcv.out)))
          go_wp2
          go_ret
          exact ⟨ret_bool Hg.out.symm, below_drewN Hbl.out _⟩
    · have hke : k = cs.length := by omega
      have Hg : Hid (in2 cs.length 1 7 = engV cs) := hd (by have := Ht.out; rw [hke, List.take_length] at this; rw [Hf.out, this]; simp)
      clear hke
      go_wp2_with fail
      refine (l1In_any cs.length 1 7 _).mono ?_
      rintro e w' ⟨rfl, rfl⟩
      go_wp2
      go_ret
      exact ⟨ret_bool Hg.out, Hbl.out⟩

theorem sEngineValid_b (n : Nat) (A : Option Addr) (c : Nat) (cs : List ByteArray) (b : Bool) (w : World) (hn : cs.length = n) (h : SS w A cs) (hs : Short cs) (hb : engV cs = b) :
    Calls Try.prog 89 #[.agg #[.slice A n c]] w fun e w' => e = .returned (.bool b) ∧ Below w.heap.size w w' := by
  subst hn hb; exact sEngineValid_any A c cs w h hs

end Go.Proofs.Ytkmblobfamhoiaa

/- Contracts of the reference's functions on engines: copies, turns. -/
namespace Go.Proofs.Ytkmblobfamhoiaa
open Go.RowKit
set_option maxRecDepth 4000

theorem ownsRow_slice {B : Nat} {E : TypeId} {w : World} {v : Value} {n : Nat} {xs : List Value} (h : w.ownsRow B E 1 v n xs) : ∃ A c, v = .slice A n c := by
  rcases h.2 with ⟨h1, h2⟩ | ⟨g, cap, cur, hv, _⟩
  · exact ⟨none, 0, by rw [h1, h2]⟩
  · exact ⟨_, _, hv⟩

/-- An engine of the call's own is returned; below B nothing has changed. -/
def RetE (E : TypeId) (B : Nat) (w : World) (cs : List ByteArray) (e : Ending) (w' : World) : Prop :=
  ∃ A c, e = .returned (.agg #[.slice A cs.length c]) ∧ OwnS E B w' A c cs ∧ Below B w w'
theorem RetE.own {E : TypeId} {B n c : Nat} {A : Option Addr} {w w' : World} {cs : List ByteArray} (h : OwnS E B w' A c cs) (hn : n = cs.length) (hb : Below B w w') : RetE E B w cs (.returned (.agg #[.slice A n c])) w' := by
  subst hn; exact ⟨_, _, rfl, h, hb⟩

set_option maxHeartbeats 800000 in
theorem l3Copy_any (A : Option Addr) (c n : Nat) (cs : List ByteArray) (w : World) (h : SS w A cs) (hn : cs.length = n) (hn1 : 1 ≤ n) (hn7 : n ≤ 1048576) :
    Calls Try.prog 85 #[.agg #[.slice A n c]] w fun e w' => RetE 9 w.heap.size w cs e w' := by
  subst hn
  obtain ⟨i0, hi, hz0, hz1, hz2⟩ := info_parts infoS
  obtain ⟨b, off, rfl, hb⟩ := h.nonempty (by omega)
  have F0 := hd ((Fr.start w (.slice (some ⟨b, off, none⟩) cs.length c) (.slice none 0 0) 36 36).alloc (.cells #[] 9))
  have Hc := hd ((((h.alloc (.cells #[.slice (some ⟨b, off, none⟩) cs.length c] 36)).alloc (.cells #[.slice none 0 0] 36)).alloc (.cells #[] 9)).cells rfl)
  have Hlit : Hid ((((w.alloc (.cells #[.slice (some ⟨b, off, none⟩) cs.length c] 36)).alloc (.cells #[.slice none 0 0] 36)).alloc (.cells #[] 9)).ownsRow (w.heap.size + 2) 9 1 (.slice (some ⟨w.heap.size + 2, 0, none⟩) 0 0) 0 []) := hd (by
    have h1 : ((w.alloc (.cells #[.slice (some ⟨b, off, none⟩) cs.length c] 36)).alloc (.cells #[.slice none 0 0] 36)).heap.size = w.heap.size + 2 := by simp
    have := World.ownsRow_lit (base := ((w.alloc (.cells #[.slice (some ⟨b, off, none⟩) cs.length c] 36)).alloc (.cells #[.slice none 0 0] 36)).heap.size) (e := 9) (size := 1) ((w.alloc (.cells #[.slice (some ⟨b, off, none⟩) cs.length c] 36)).alloc (.cells #[.slice none 0 0] 36)) #[] 0 (Nat.le_refl _) (by simp) rfl
    rwa [h1] at this)
  clear h
  go_enter Try.func85, Try.ntmps85
  go_wp2_with (at_builtin; refine wpList_append_own _ rfl _ _ 30 rfl (w.heap.size + 2) 9 i0 (.string ByteArray.empty) 1 16 Try.underlying30 hi hz0 hz1 hz2 rfl (by decide) _ 0 [] rfl Hlit.out ⟨b, off, none⟩ cs.length c (cs.map Value.string) rfl (by simp) Hc.out (strs_one cs) (by unfold maxLen; omega) (by omega) (by simp) ?_; intro v1 w1 hown hgrow hnil; clear hnil; obtain ⟨A3, c3, hv1⟩ := ownsRow_slice hown; subst hv1; have F1 := hd (F0.out.grown (r := w.heap.size + 2) hgrow (Nat.le_refl _)); obtain ⟨⟨c1, f1⟩, ⟨c2, f2⟩, -, -⟩ := F1.out)
  simp only [Nat.zero_add, List.nil_append] at hown
  have Own : Hid (OwnS 9 w.heap.size (w1.setCell ⟨w.heap.size + 1, 0, none⟩ (.slice A3 cs.length c3)) A3 c3 cs) := hd
    (((OwnG.of_row (A := A3) (c := c3) hown rfl (by omega)).keep_lo (grown_set w1 ⟨w.heap.size + 1, 0, none⟩ (.slice A3 cs.length c3)) (fun r hr => by simp at hr; omega)).low (by omega))
  clear hown hgrow
  refine bodyPost_ret (v := .agg #[.slice A3 cs.length c3]) ?_ rfl (RetE.own Own.out rfl (F1.out.done _))
  simp [results, Try.results85, c2, go_sem]

/-- The same with the cell of a local struct in block g. -/
def Fr3 (w w1 : World) (v v2 : Value) (g : Nat) (v3 : Value) : Prop :=
  Fr w w1 v v2 ∧ (w1.cell? ⟨g, 0, none⟩ = some v3 ∧ w1.frozen? ⟨g, 0, none⟩ = false) ∧ w.heap.size + 2 ≤ g ∧ g < w1.heap.size

theorem Fr3.below {w w1 w2 : World} {v v2 v3 : Value} {g : Nat} (h : Fr3 w w1 v v2 g v3) (b : Below w1.heap.size w1 w2) : Fr3 w w2 v v2 g v3 := by
  obtain ⟨h1, ⟨h2, h3⟩, h4, h5⟩ := h
  refine ⟨h1.below b, ⟨?_, ?_⟩, h4, Nat.lt_of_lt_of_le h5 b.size⟩
  · rw [b.cell (p := ⟨g, 0, none⟩) h5]; exact h2
  · rw [b.frozen (p := ⟨g, 0, none⟩) h5]; exact h3
theorem Fr3.drew {w w1 : World} {v v2 v3 : Value} {g : Nat} (h : Fr3 w w1 v v2 g v3) : Fr3 w w1.drew v v2 g v3 :=
  ⟨⟨h.1.1, h.1.2.1, h.1.2.2.1, h.1.2.2.2.drew⟩, h.2.1, h.2.2⟩
theorem Fr3.set {w w1 : World} {v v2 v3 : Value} {g r k : Nat} (h : Fr3 w w1 v v2 g v3) (hr : w.heap.size + 2 ≤ r) (hrg : r ≠ g) (x : Value) : Fr3 w (w1.setCell ⟨r, k, none⟩ x) v v2 g v3 := by
  have gr := grown_set w1 ⟨r, k, none⟩ x
  obtain ⟨h1, ⟨h2, h3⟩, h4, h5⟩ := h
  have hb : (w1.setCell ⟨r, k, none⟩ x).heap[g]? = w1.heap[g]? := gr.block g h5 (by simpa using fun e => hrg e.symm)
  refine ⟨h1.grown gr hr, ⟨?_, ?_⟩, h4, Nat.lt_of_lt_of_le h5 gr.size⟩
  · rw [World.cell?_of_block (w := w1) hb]; exact h2
  · rw [World.frozen?_of_block (w := w1) hb]; exact h3
theorem Fr3.start {w w1 : World} {v v2 v3 : Value} (h : Fr w w1 v v2) (T : TypeId) : Fr3 w (w1.alloc (.cells #[v3] T)) v v2 w1.heap.size v3 := by
  have hg := heap_alloc_new w1 (.cells #[v3] T)
  refine ⟨h.alloc _, ⟨?_, ?_⟩, h.2.2.1, by simp⟩
  · rw [cell_of_row _ _ _ _ _ _ hg]; rfl
  · exact frozen_of_row _ _ _ _ _ hg

set_option maxHeartbeats 3200000 in
theorem l3Turn_any (W : Nat) (vs : List Int) (A : Option Addr) (c n : Nat) (w : World) (h : SS w A (eng W vs)) (h1 : 1 ≤ W) (h12 : W ≤ 12) (hn : vs.length = n) (hn1 : 1 ≤ n) (hn7 : n ≤ 7) :
    Calls Try.prog 76 #[.agg #[.slice A n c]] w fun e w' => RetE 9 w.heap.size w (eng W (manyV vs 1)) e w' := by
  have Hh := hd h
  have Hel : Hid ((eng W vs).length = n) := hd (by rw [eng_length, hn])
  obtain ⟨us, Hus⟩ : ∃ us, Hid (manyV vs 1 = us) := ⟨_, hd rfl⟩
  rw [Hus.out]
  have Hul : Hid (us.length = vs.length) := hd (by rw [← Hus.out, manyV_length])
  have Hn := hd hn
  have F0 := hd (Fr.start w (.slice A n c) (.slice none 0 0) 36 36)
  clear h hn
  go_enter Try.func76, Try.ntmps76
  go_wp2_with fail
  refine (l3Copy_any A c n (eng W vs) _ ((Hh.out.alloc _).alloc _) Hel.out hn1 (by omega)).mono ?_
  rintro e w1 ⟨A1, c1, rfl, own1, b1⟩
  obtain ⟨g, hA1, hg1, hg2⟩ := own1.addr (by rw [Hel.out]; omega)
  subst hA1
  have hg3 : w.heap.size + 2 ≤ g := by simpa using hg1
  have F1 := hd (F0.out.below b1)
  have Own1 := hd (own1.low (B' := w.heap.size + 2) (by simp))
  rw [Hel.out]
  clear own1 b1 hg1
  have F3 := hd (Fr3.start (v3 := .slice (some ⟨g, 0, none⟩) n c1) F1.out 36)
  have Own1 := hd (Own1.out.alloc (.cells #[.slice (some ⟨g, 0, none⟩) n c1] 36))
  have hgo : g ≠ w1.heap.size := by omega
  go_wp2
  go_loopw [4] (fun i wr => ∃ k : Nat, k + 1 ≤ n ∧ i = .int .i64 k ∧ Fr3 w wr (.slice A n c) (.slice none 0 0) w1.heap.size (.slice (some ⟨g, 0, none⟩) n c1) ∧ OwnS 9 (w.heap.size + 2) wr (some ⟨g, 0, none⟩) c1 (eng W (mixV us vs k)))
    (fun i _ => n - (intOf i).toNat)
  case atStart => exact ⟨0, by omega, rfl, F3.out, by rw [mixV_zero]; exact Own1.out⟩
  case round =>
    clear F3 Own1 F1
    obtain ⟨k, hk, rfl, fr, own⟩ := hrel
    have Fr_ := hd fr
    have Own := hd own
    clear fr own
    obtain ⟨⟨⟨q1, q2⟩, ⟨q3, q4⟩, q5, Bel⟩, ⟨q6, q7⟩, q8, q9⟩ := Fr_.out
    by_cases hlt : k + 1 < n
    · have hn := Hn.out
      obtain ⟨x, Hx⟩ : ∃ x, Hid (vs[k]? = some x) := ⟨vs[k], hd (List.getElem?_eq_getElem (by omega))⟩
      obtain ⟨y, Hy⟩ : ∃ y, Hid (vs[k + 1]? = some y) := ⟨vs[k + 1], hd (List.getElem?_eq_getElem (by omega))⟩
      clear hn
      obtain ⟨s1, b, off, hs1, rfl, hb, hc1⟩ := (Hh.out.below Bel).at_ (k := k) (by rw [Hel.out]; omega)
      obtain ⟨s2, b', off', hs2, he, hb', hc2⟩ := (Hh.out.below Bel).at_ (k := k + 1) (by rw [Hel.out]; omega)
      simp only [Option.some.injEq, Addr.mk.injEq, and_true] at he
      obtain ⟨rfl, rfl⟩ := he
      obtain rfl : s1 = showC W x := by rw [eng_at Hx.out] at hs1; injection hs1 with hs1; exact hs1.symm
      obtain rfl : s2 = showC W y := by rw [eng_at Hy.out] at hs2; injection hs2 with hs2; exact hs2.symm
      clear hs1 hs2
      have Hlx : Hid (k < (eng W (mixV us vs k)).length) := hd (by rw [eng_length, mixV_length Hul.out, Hn.out]; omega)
      have e1 : IntKind.i64.wrap ((k : Int) + 1) = (k : Int) + 1 := IntWalk.i64_in _ (by omega)
      have e2 : ((k : Int) + 1).toNat = k + 1 := by omega
      have e3 : (0 : Int) ≤ (k : Int) + 1 := by omega
      have e4 : (k : Int) + 1 < n := by omega
      have e5 : k < n := by omega
      go_wp2
      go_region_law ((go_simp; go_at_call 90; refine (l3Plus_c W x y _ h1 h12).mono ?_; rintro e w2 ⟨rfl, b2⟩; have Own2 := hd (Own.out.drew.below b2); have Fr2 := hd (Fr_.out.drew.below b2); obtain ⟨g', o, ho, hg', hco, hfo⟩ := Own2.out.at_ (k := k) Hlx.out; simp only [Option.some.injEq, Addr.mk.injEq, and_true] at hg'; subst hg'; obtain ⟨⟨⟨p1, p2⟩, ⟨p3, p4⟩, -, -⟩, ⟨p6, p7⟩, -, -⟩ := Fr2.out; clear b2 ho))
      all_goals
        clear e1 e2 e3 e4 e5 q1 q2 q3 q4 q5 q6 q7 q8 q9 p1 p2 p3 p4 p6 p7
        have Own3 := hd (Own2.out.set k (showC W (x + y)))
        have Fr3_ := hd (Fr2.out.set (k := k) hg3 hgo (.string (showC W (x + y))))
        have Hnx : Hid ((eng W (mixV us vs k)).set k (showC W (x + y)) = eng W (mixV us vs (k + 1))) := hd (by
          rw [eng_set, mixV_set Hul.out (by rw [← Hus.out]; exact manyV_one_at Hx.out Hy.out)])
        go_wp2
        go_roundw
        case rel => exact ⟨k + 1, by omega, by go_num, Fr3_.out, by rw [← Hnx.out]; exact Own3.out⟩
        case measure => simp [intOf]; omega
    · have Hf : Hid (mixV us vs k = us) := hd (by
        have hn := Hn.out
        rw [← mixV_same Hul.out (by rw [← Hus.out]; exact manyV_last 1 (by omega)) (by omega)]
        exact mixV_full Hul.out (by omega))
      have Hl2 : Hid ((eng W us).length = n) := hd (by rw [eng_length, Hul.out, Hn.out])
      rw [Hf.out] at Own
      have Ow2 := hd ((Own.out.keep_lo (grown_set wr ⟨w.heap.size + 1, 0, none⟩ (.slice (some ⟨g, 0, none⟩) n c1)) (fun r hr => by simp at hr; omega)).low (show w.heap.size ≤ w.heap.size + 2 by omega))
      go_wp2
      refine bodyPost_ret (v := .agg #[.slice (some ⟨g, 0, none⟩) n c1]) ?_ rfl (RetE.own Ow2.out Hl2.out.symm (Fr_.out.1.done _))
      simp [results, Try.results76, q3, go_sem]

end Go.Proofs.Ytkmblobfamhoiaa
