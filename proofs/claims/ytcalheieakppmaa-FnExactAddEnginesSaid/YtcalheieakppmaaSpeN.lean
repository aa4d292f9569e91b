/- Contracts of the reference's functions on columns and on engines: values, sums, validity. -/
import Derived.Test.YtcalheieakppmaaSpeM
import Derived.Test.YtcalheieakppmaaEngB
namespace Go.Proofs.Ytcalheieakppmaa
open Go.RowKit
set_option maxRecDepth 4000

set_option maxHeartbeats 400000 in
theorem l1Value_yes (s : ByteArray) (w : World) (hv : colV s = true) :
    Calls Try.prog 142 #[.string s] w fun e w' => e = .returned (.int .i64 (cval s)) ∧ w' = w := by
  obtain ⟨⟨h1, h12⟩, hdg⟩ := colV_iff.1 hv
  have Hdg := hd hdg
  clear hv hdg
  go_enter Try.func142, Try.ntmps142
  go_wp2
  go_loop [3, 4] (fun x i => ∃ k : Nat, k ≤ s.size ∧ i = .int .i64 k ∧ x = .int .i64 (dval (s.data.toList.take k))) (fun _ i => s.size - (intOf i).toNat)
  case atStart => exact ⟨0, by omega, rfl, by simp [dval]⟩
  case round =>
    obtain ⟨k, hk, rfl, rfl⟩ := hrel
    obtain ⟨x, Hx⟩ : ∃ x, Hid (dval (s.data.toList.take k) = x) := ⟨_, hd rfl⟩
    rw [Hx.out]
    have hb : 0 ≤ x ∧ x ≤ 1000000000000 := by
      have h2 := dval_nonneg (s.data.toList.take k) (by
        rw [List.all_eq_true]
        intro b hb
        exact List.all_eq_true.1 Hdg.out b (List.mem_of_mem_take hb))
      rw [Hx.out, List.length_take, str_len, Nat.min_eq_left hk] at h2
      have h3 := ten_bd k (by omega)
      unfold ten at h3
      omega
    obtain ⟨hb1, hb2⟩ := hb
    by_cases hlt : k < s.size
    · have HS := hd (dval_take s k hlt)
      rw [Hx.out] at HS
      have hdk : 48 ≤ (s[k].toNat : Int) ∧ (s[k].toNat : Int) ≤ 57 := by
        have := List.all_eq_true.1 Hdg.out _ (List.mem_of_getElem? (str_at s k hlt))
        rw [isDig_of] at this
        simpa using this
      obtain ⟨hd1, hd2⟩ := hdk
      go_wp2
      go_round
      case rel => exact ⟨k + 1, by omega, by go_num, by rw [HS.out]; go_num⟩
      case measure => simp [intOf]; omega
    · have Hf : Hid (x = cval s) := hd (by
        have h2 := Hx.out
        rw [List.take_of_length_le (by rw [str_len]; omega)] at h2
        exact h2.symm)
      go_wp2
      go_ret
      exact ⟨ret_int Hf.out, rfl⟩

theorem l1Value_c (W : Nat) (x v : Int) (w : World) (h1 : 1 ≤ W) (h12 : W ≤ 12) (hv : x % ten W = v) :
    Calls Try.prog 142 #[.string (showC W x)] w fun e w' => e = .returned (.int .i64 v) ∧ w' = w := by
  subst hv
  have := l1Value_yes (showC W x) w (colV_showC x h1 h12)
  rwa [cval_showC] at this
theorem l1Value_w (W : Nat) (x v : Int) (w : World) (h1 : 1 ≤ W) (h12 : W ≤ 12) (hv : x % ten W = v) :
    Calls Try.prog 142 #[.string (showC W x)] w fun e w' => e = .returned (.int .i64 v) ∧ w = w' :=
  (l1Value_c W x v w h1 h12 hv).mono fun _ _ ⟨a, b⟩ => ⟨a, b.symm⟩

/-- A string is returned; nothing that was there before has changed. -/
def RetS (w : World) (s : ByteArray) (e : Ending) (w' : World) : Prop := e = .returned (.string s) ∧ Below w.heap.size w w'

set_option maxHeartbeats 800000 in
theorem l3Plus_c (W : Nat) (x y : Int) (w : World) (h1 : 1 ≤ W) (h12 : W ≤ 12) :
    Calls Try.prog 86 #[.string (showC W x), .string (showC W y)] w fun e w' => RetS w (showC W (x + y)) e w' := by
  obtain ⟨u, Hu⟩ : ∃ u, Hid (x % ten W = u) := ⟨_, hd rfl⟩
  obtain ⟨v, Hv⟩ : ∃ v, Hid (y % ten W = v) := ⟨_, hd rfl⟩
  have hu := mod_bd W x
  have hv := mod_bd W y
  rw [Hu.out] at hu
  rw [Hv.out] at hv
  have ht := ten_bd W h12
  obtain ⟨hu1, hu2⟩ := hu
  obtain ⟨hv1, hv2⟩ := hv
  obtain ⟨ht1, ht2⟩ := ht
  have hsz : Hid ((showC W x).size = W) := hd (showC_size W x)
  have Hs : Hid ((u + v) % ten W = (x + y) % ten W) := hd (by rw [← Hu.out, ← Hv.out, add_mod_show])
  go_enter Try.func86, Try.ntmps86
  go_wp2_with fail
  refine (l1Value_w W x u _ h1 h12 Hu.out).mono ?_
  rintro e w' ⟨rfl, rfl⟩
  go_wp2_with fail
  refine (l1Value_w W y v _ h1 h12 Hv.out).mono ?_
  rintro e w' ⟨rfl, rfl⟩
  go_wp2_with fail
  rw [hsz.out]
  refine (l1Show_c (u + v) (x + y) W _ h12 Hs.out).mono ?_
  rintro e w' ⟨rfl, bb⟩
  go_wp2
  go_ret
  exact ⟨rfl, bb⟩

set_option maxHeartbeats 800000 in
theorem l3Minus_c (W : Nat) (x y : Int) (w : World) (h1 : 1 ≤ W) (h12 : W ≤ 12) :
    Calls Try.prog 153 #[.string (showC W x), .string (showC W y)] w fun e w' => RetS w (showC W (x - y)) e w' := by
  obtain ⟨u, Hu⟩ : ∃ u, Hid (x % ten W = u) := ⟨_, hd rfl⟩
  obtain ⟨v, Hv⟩ : ∃ v, Hid (y % ten W = v) := ⟨_, hd rfl⟩
  have hu := mod_bd W x
  have hv := mod_bd W y
  rw [Hu.out] at hu
  rw [Hv.out] at hv
  have ht := ten_bd W h12
  obtain ⟨hu1, hu2⟩ := hu
  obtain ⟨hv1, hv2⟩ := hv
  obtain ⟨ht1, ht2⟩ := ht
  have hsz : Hid ((showC W x).size = W) := hd (showC_size W x)
  have Hs : Hid ((u - v) % ten W = (x - y) % ten W) := hd (by rw [← Hu.out, ← Hv.out, sub_mod_show])
  go_enter Try.func153, Try.ntmps153
  go_wp2_with fail
  refine (l1Value_w W x u _ h1 h12 Hu.out).mono ?_
  rintro e w' ⟨rfl, rfl⟩
  go_wp2_with fail
  refine (l1Value_w W y v _ h1 h12 Hv.out).mono ?_
  rintro e w' ⟨rfl, rfl⟩
  go_wp2_with fail
  rw [hsz.out]
  refine (l1Show_c (u - v) (x - y) W _ h12 Hs.out).mono ?_
  rintro e w' ⟨rfl, bb⟩
  go_wp2
  go_ret
  exact ⟨rfl, bb⟩

/-- What the reference asks of each column. -/
def okC (m : Nat) (c : ByteArray) : Bool := colV c && decide (c.size = m)

theorem quiet_more {P : Program} {f : FuncId} {args : Array Value} {w : World} {a n : Nat} {v : Value} (h : Calls P f args (w.drewN (a + n)) fun e w' => e = .returned v ∧ w' = w.drewN (a + n)) :
    Calls P f args (w.drewN (a + n)) fun e w' => e = .returned v ∧ ∃ m, w' = w.drewN (a + m) :=
  h.mono fun _ _ ⟨h1, h2⟩ => ⟨h1, n, h2⟩

theorem sColV_q (s : ByteArray) (b : Bool) (w : World) (hs : s.size ≤ 1048576) (hb : colV s = b) :
    Calls Try.prog 140 #[.string s] w fun e w' => e = .returned (.bool b) ∧ w' = w := by
  subst hb; exact sColumnValid_any s w (by omega)

set_option maxHeartbeats 1600000 in
theorem sEngineValid_any (A : Option Addr) (c : Nat) (cs : List ByteArray) (w : World) (h : SS w A cs) (hs : Short cs) :
    Calls Try.prog 84 #[.agg #[.slice A cs.length c]] w fun e w' => e = .returned (.bool (engV cs)) ∧ Below w.heap.size w w' := by
  have Hh := hd h
  have hl := h.len
  have Hs := hd hs
  have Hbx : Hid (Below w.heap.size w (w.alloc (.cells #[.slice A cs.length c] 31))) := hd ((Below.refl _ _).alloc (Nat.le_refl _) _)
  have Hf : Hid (engV cs = (in2 cs.length 1 7 && cs.all (okC (hsz cs)))) := hd (by
    rw [engV]
    congr 1
    rw [Bool.eq_iff_iff]
    simp [in2]
    omega)
  clear h hs
  go_enter Try.func84, Try.ntmps84
  go_wp2
  go_loopw [3] (fun i wr => ∃ k md : Nat, k ≤ cs.length ∧ i = .int .i64 k ∧ (cs.take k).all (okC (hsz cs)) = true ∧ wr = (w.alloc (.cells #[.slice A cs.length c] 31)).drewN md) (fun i _ => cs.length - (intOf i).toNat)
  case atStart => exact ⟨0, 0, by omega, rfl, by simp, rfl⟩
  case round =>
    obtain ⟨k, md, hk, rfl, ht, rfl⟩ := hrel
    have Ht := hd ht
    have Hbl := hd (below_drewN Hbx.out md)
    clear ht
    by_cases hlt : k < cs.length
    · obtain ⟨x, b, off, hx, hA, hb, hc0⟩ := Hh.out.at_ (k := 0) (by omega)
      subst hA
      rw [Nat.add_zero] at hc0
      have Hxz : Hid (hsz cs = x.size) := hd (by
        rw [hsz]
        cases cs with
        | nil => simp at hx
        | cons c r => simp at hx; rw [hx]; rfl)
      clear hx
      obtain ⟨y, b', off', hy, he, hb', hc⟩ := Hh.out.at_ hlt
      simp only [Option.some.injEq, Addr.mk.injEq, and_true] at he
      obtain ⟨rfl, rfl⟩ := he
      have hys := Hs.out y (List.mem_of_getElem? hy)
      have Hy := hd hy
      clear hy
      cases hcv : colV y
      · have Hcv := hd hcv
        have Hg : Hid (engV cs = false) := hd (by rw [Hf.out, all_false_of (okC (hsz cs)) cs k y Hy.out (by simp [okC, hcv])]; simp)
        clear hcv
        go_wp2
        go_quiet ((go_at_call 140; exact quiet_more (sColV_q y false _ hys Hcv.out)))
        go_wp2
        go_ret
        exact ⟨ret_bool Hg.out.symm, below_drewN Hbl.out _⟩
      · have Hcv := hd hcv
        clear hcv
        by_cases hsz' : y.size = x.size
        · have e1 : ((y.size : Int) != x.size) = false := by simp [hsz']
          have Hok : Hid (okC (hsz cs) y = true) := hd (by simp [okC, Hcv.out, Hxz.out, hsz'])
          clear hsz'
          go_wp2
          go_quiet ((go_at_call 140; exact quiet_more (sColV_q y true _ hys Hcv.out)))
          go_wp2
          go_roundw
          case rel => exact ⟨k + 1, _, by omega, by go_num, all_take_succ _ _ _ _ Hy.out Ht.out Hok.out, rfl⟩
          case measure => simp [intOf]; omega
        · have e1 : ((y.size : Int) != x.size) = true := by simp; omega
          have Hg : Hid (engV cs = false) := hd (by rw [Hf.out, all_false_of (okC (hsz cs)) cs k y Hy.out (by simp [okC, Hxz.out, hsz'])]; simp)
          clear hsz'
          go_wp2
          go_quiet ((go_at_call 140; exact quiet_more (sColV_q y true _ hys Hcv.out)))
          go_wp2
          go_ret
          exact ⟨ret_bool Hg.out.symm, below_drewN Hbl.out _⟩
    · have hke : k = cs.length := by omega
      have Hg : Hid (in2 cs.length 1 7 = engV cs) := hd (by have := Ht.out; rw [hke, List.take_length] at this; rw [Hf.out, this]; simp)
      clear hke
      go_wp2_with fail
      refine (l1In_any cs.length 1 7 _).mono ?_
      rintro e w' ⟨rfl, rfl⟩
      go_wp2
      go_ret
      exact ⟨ret_bool Hg.out, Hbl.out⟩

theorem sEngineValid_b (n : Nat) (A : Option Addr) (c : Nat) (cs : List ByteArray) (b : Bool) (w : World) (hn : cs.length = n) (h : SS w A cs) (hs : Short cs) (hb : engV cs = b) :
    Calls Try.prog 84 #[.agg #[.slice A n c]] w fun e w' => e = .returned (.bool b) ∧ Below w.heap.size w w' := by
  subst hn hb; exact sEngineValid_any A c cs w h hs

end Go.Proofs.Ytcalheieakppmaa
