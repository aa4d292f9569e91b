/- Merged out of the texts SpeM SpeN SpeO. -/
import Derived.Test.YtinhcdppdnmlgaaGrF
import Derived.Test.YtinhcdppdnmlgaaGrD
import Derived.Test.YtinhcdppdnmlgaaGrE
/- Contracts of the reference's functions on columns. -/
namespace Go.Proofs.Ytinhcdppdnmlgaa
open Go.RowKit
set_option maxRecDepth 4000

theorem l1Width_any (n : Int) (w : World) :
    Calls Try.prog 32 #[.int .i64 n] w fun e w' => e = .returned (.bool (wV n)) ∧ w = w' := by
  go_enter Try.func32, Try.ntmps32
  go_wp2_with (go_at_call 21; refine (l1In_any n 1 12 _).mono ?_; rintro e w' ⟨rfl, rfl⟩)
  go_ret
  exact ⟨rfl, rfl⟩

set_option maxHeartbeats 400000 in
theorem sColumnValid_any (s : ByteArray) (w : World) (hs : s.size ≤ 17592186044416) :
    Calls Try.prog 20 #[.string s] w fun e w' => e = .returned (.bool (colV s)) ∧ w' = w := by
  go_enter Try.func20, Try.ntmps20
  go_wp2
  go_loop [3] (fun i => ∃ k : Nat, k ≤ s.size ∧ i = .int .i64 k ∧ (s.data.toList.take k).all isDig = true) (fun i => s.size - (intOf i).toNat)
  case atStart => exact ⟨0, by omega, rfl, by simp⟩
  case round =>
    obtain ⟨k, hk, rfl, ht⟩ := hrel
    have Ht := hd ht
    clear ht
    by_cases hlt : k < s.size
    · have Hts := hd (str_take s k hlt)
      by_cases hd1 : 48 ≤ (s[k].toNat : Int)
      · by_cases hd2 : (s[k].toNat : Int) ≤ 57
        · have Hn : Hid ((s.data.toList.take (k + 1)).all isDig = true) := hd (by
            rw [Hts.out, List.all_append, Ht.out]
            simp [isDig_of, hd1, hd2])
          go_wp2
          go_round
          case rel => exact ⟨k + 1, by omega, by go_num, Hn.out⟩
          case measure => simp [intOf] <;> omega
        · have Hn : Hid (colV s = false) := hd (by
            rw [colV_wV, all_false_of isDig _ k _ (str_at s k hlt) (by simp [isDig_of, hd2])]; simp)
          go_wp2
          go_ret
          exact ⟨ret_bool Hn.out.symm, rfl⟩
      · have Hn : Hid (colV s = false) := hd (by
          rw [colV_wV, all_false_of isDig _ k _ (str_at s k hlt) (by simp [isDig_of, hd1])]; simp)
        go_wp2
        go_ret
        exact ⟨ret_bool Hn.out.symm, rfl⟩
    · have hke : k = s.size := by omega
      have Hn : Hid (wV s.size = colV s) := hd (by
        have := Ht.out
        rw [hke, List.take_of_length_le (by rw [str_len]; exact Nat.le_refl _)] at this
        rw [colV_wV, this]; simp)
      clear hke
      go_wp2_with fail
      refine (l1Width_any s.size _).mono ?_
      rintro e w' ⟨rfl, rfl⟩
      go_wp2
      go_ret
      exact ⟨ret_bool Hn.out, rfl⟩

theorem sColV (s : ByteArray) (b : Bool) (w : World) (hs : s.size ≤ 17592186044416) (hb : colV s = b) :
    Calls Try.prog 20 #[.string s] w fun e w' => e = .returned (.bool b) ∧ w' = w := by
  subst hb; exact sColumnValid_any s w hs

theorem tmod_twice (n m : Int) (hm : 0 < m) : (n.tmod m + m).tmod m = n % m := by
  have hb1 : -m < n.tmod m := Int.lt_tmod_of_pos _ hm
  have h := tmod_emod n m hm
  have h1 := Int.emod_nonneg n (by omega : m ≠ 0)
  have h2 := Int.emod_lt_of_pos n hm
  rw [Int.tmod_eq_emod_of_nonneg (by omega)]
  split at h
  · rw [h]; exact Int.emod_eq_of_lt h1 h2
  · rw [Int.add_emod_right, h]; exact Int.emod_eq_of_lt h1 h2

end Go.Proofs.Ytinhcdppdnmlgaa

/- Contracts of the reference's functions on columns and on engines: values, sums, validity. -/
namespace Go.Proofs.Ytinhcdppdnmlgaa
open Go.RowKit
set_option maxRecDepth 4000

set_option maxHeartbeats 400000 in
theorem l1Value_yes (s : ByteArray) (w : World) (hv : colV s = true) :
    Calls Try.prog 35 #[.string s] w fun e w' => e = .returned (.int .i64 (cval s)) ∧ w' = w := by
  obtain ⟨⟨h1, h12⟩, hdg⟩ := colV_iff.1 hv
  have Hdg := hd hdg
  clear hv hdg
  go_enter Try.func35, Try.ntmps35
  go_wp2
  go_loop [3, 4] (fun x i => ∃ k : Nat, k ≤ s.size ∧ i = .int .i64 k ∧ x = .int .i64 (dval (s.data.toList.take k))) (fun _ i => s.size - (intOf i).toNat)
  case atStart => exact ⟨0, by omega, rfl, by simp [dval]⟩
  case round =>
    obtain ⟨k, hk, rfl, rfl⟩ := hrel
    obtain ⟨x, Hx⟩ : ∃ x, Hid (dval (s.data.toList.take k) = x) := ⟨_, hd rfl⟩
    rw [Hx.out]
    have hb : 0 ≤ x ∧ x ≤ 1000000000000 := by
      have h2 := dval_nonneg (s.data.toList.take k) (by
        rw [List.all_eq_true]
        intro b hb
        exact List.all_eq_true.1 Hdg.out b (List.mem_of_mem_take hb))
      rw [Hx.out, List.length_take, str_len, Nat.min_eq_left hk] at h2
      have h3 := ten_bd k (by omega)
      unfold ten at h3
      omega
    obtain ⟨hb1, hb2⟩ := hb
    by_cases hlt : k < s.size
    · have HS := hd (dval_take s k hlt)
      rw [Hx.out] at HS
      have hdk : 48 ≤ (s[k].toNat : Int) ∧ (s[k].toNat : Int) ≤ 57 := by
        have := List.all_eq_true.1 Hdg.out _ (List.mem_of_getElem? (str_at s k hlt))
        rw [isDig_of] at this
        simpa using this
      obtain ⟨hd1, hd2⟩ := hdk
      go_wp2
      go_round
      case rel => exact ⟨k + 1, by omega, by go_num, by rw [HS.out]; go_num⟩
      case measure => simp [intOf]; omega
    · have Hf : Hid (x = cval s) := hd (by
        have h2 := Hx.out
        rw [List.take_of_length_le (by rw [str_len]; omega)] at h2
        exact h2.symm)
      go_wp2
      go_ret
      exact ⟨ret_int Hf.out, rfl⟩

theorem l1Value_c (W : Nat) (x v : Int) (w : World) (h1 : 1 ≤ W) (h12 : W ≤ 12) (hv : x % ten W = v) :
    Calls Try.prog 35 #[.string (showC W x)] w fun e w' => e = .returned (.int .i64 v) ∧ w' = w := by
  subst hv
  have := l1Value_yes (showC W x) w (colV_showC x h1 h12)
  rwa [cval_showC] at this
theorem l1Value_w (W : Nat) (x v : Int) (w : World) (h1 : 1 ≤ W) (h12 : W ≤ 12) (hv : x % ten W = v) :
    Calls Try.prog 35 #[.string (showC W x)] w fun e w' => e = .returned (.int .i64 v) ∧ w = w' :=
  (l1Value_c W x v w h1 h12 hv).mono fun _ _ ⟨a, b⟩ => ⟨a, b.symm⟩

/-- A string is returned; nothing that was there before has changed. -/
def RetS (w : World) (s : ByteArray) (e : Ending) (w' : World) : Prop := e = .returned (.string s) ∧ Below w.heap.size w w'

/-- What the reference asks of each column. -/
def okC (m : Nat) (c : ByteArray) : Bool := colV c && decide (c.size = m)

theorem quiet_more {P : Program} {f : FuncId} {args : Array Value} {w : World} {a n : Nat} {v : Value} (h : Calls P f args (w.drewN (a + n)) fun e w' => e = .returned v ∧ w' = w.drewN (a + n)) :
    Calls P f args (w.drewN (a + n)) fun e w' => e = .returned v ∧ ∃ m, w' = w.drewN (a + m) :=
  h.mono fun _ _ ⟨h1, h2⟩ => ⟨h1, n, h2⟩

theorem sColV_q (s : ByteArray) (b : Bool) (w : World) (hs : s.size ≤ 1048576) (hb : colV s = b) :
    Calls Try.prog 20 #[.string s] w fun e w' => e = .returned (.bool b) ∧ w' = w := by
  subst hb; exact sColumnValid_any s w (by omega)

set_option maxHeartbeats 1600000 in
theorem sEngineValid_any (A : Option Addr) (c : Nat) (cs : List ByteArray) (w : World) (h : SS w A cs) (hs : Short cs) :
    Calls Try.prog 13 #[.agg #[.slice A cs.length c]] w fun e w' => e = .returned (.bool (engV cs)) ∧ Below w.heap.size w w' := by
  have Hh := hd h
  have hl := h.len
  have Hs := hd hs
  have Hbx : Hid (Below w.heap.size w (w.alloc (.cells #[.slice A cs.length c] 27))) := hd ((Below.refl _ _).alloc (Nat.le_refl _) _)
  have Hf : Hid (engV cs = (in2 cs.length 1 7 && cs.all (okC (hsz cs)))) := hd (by
    rw [engV]
    congr 1
    rw [Bool.eq_iff_iff]
    simp [in2]
    omega)
  clear h hs
  go_enter Try.func13, Try.ntmps13
  go_wp2
  go_loopw [3] (fun i wr => ∃ k md : Nat, k ≤ cs.length ∧ i = .int .i64 k ∧ (cs.take k).all (okC (hsz cs)) = true ∧ wr = (w.alloc (.cells #[.slice A cs.length c] 27)).drewN md) (fun i _ => cs.length - (intOf i).toNat)
  case atStart => exact ⟨0, 0, by omega, rfl, by simp, rfl⟩
  case round =>
    obtain ⟨k, md, hk, rfl, ht, rfl⟩ := hrel
    have Ht := hd ht
    have Hbl := hd (below_drewN Hbx.out md)
    clear ht
    by_cases hlt : k < cs.length
    · obtain ⟨x, b, off, hx, hA, hb, hc0⟩ := Hh.out.at_ (k := 0) (by omega)
      subst hA
      rw [Nat.add_zero] at hc0
      have Hxz : Hid (hsz cs = x.size) := hd (by
        rw [hsz]
        cases cs with
        | nil => simp at hx
        | cons c r => simp at hx; rw [hx]; rfl)
      clear hx
      obtain ⟨y, b', off', hy, he, hb', hc⟩ := Hh.out.at_ hlt
      simp only [Option.some.injEq, Addr.mk.injEq, and_true] at he
      obtain ⟨rfl, rfl⟩ := he
      have hys := Hs.out y (List.mem_of_getElem? hy)
      have Hy := hd hy
      clear hy
      cases hcv : colV y
      · have Hcv := hd hcv
        have Hg : Hid (engV cs = false) := hd (by rw [Hf.out, all_false_of (okC (hsz cs)) cs k y Hy.out (by simp [okC, hcv])]; simp)
        clear hcv
        go_wp2
        go_quiet ((go_at_call 20; exact quiet_more (sColV_q y false _ hys Hcv.out)))
        go_wp2
        go_ret
        exact ⟨ret_bool Hg.out.symm, below_drewN Hbl.out _⟩
      · have Hcv := hd hcv
        clear hcv
        by_cases hsz' : y.size = x.size
        · have e1 : ((y.size : Int) != x.size) = false := by simp [hsz']
          have Hok : Hid (okC (hsz cs) y = true) := hd (by simp [okC, Hcv.out, Hxz.out, hsz'])
          clear hsz'
          go_wp2
          go_quiet ((go_at_call 20; exact quiet_more (sColV_q y true _ hys Hcv.out)))
          go_wp2
          go_roundw
          case rel => exact ⟨k + 1, _, by omega, by go_num, all_take_succ _ _ _ _ Hy.out Ht.out Hok.out, rfl⟩
          case measure => simp [intOf]; omega
        · have e1 : ((y.size : Int) != x.size) = true := by simp; omega
          have Hg : Hid (engV cs = false) := hd (by rw [Hf.out, all_false_of (okC (hsz cs)) cs k y Hy.out (by simp [okC, Hxz.out, hsz'])]; simp)
          clear hsz'
          go_wp2
          go_quiet ((go_at_call 20; exact quiet_more (sColV_q y true _ hys Hcv.out)))
          go_wp2
          go_ret
          exact ⟨ret_bool Hg.out.symm, below_drewN Hbl.out _⟩
    · have hke : k = cs.length := by omega
      have Hg : Hid (in2 cs.length 1 7 = engV cs) := hd (by have := Ht.out; rw [hke, List.take_length] at this; rw [Hf.out, this]; simp)
      clear hke
      go_wp2_with fail
      refine (l1In_any cs.length 1 7 _).mono ?_
      rintro e w' ⟨rfl, rfl⟩
      go_wp2
      go_ret
      exact ⟨ret_bool Hg.out, Hbl.out⟩

theorem sEngineValid_b (n : Nat) (A : Option Addr) (c : Nat) (cs : List ByteArray) (b : Bool) (w : World) (hn : cs.length = n) (h : SS w A cs) (hs : Short cs) (hb : engV cs = b) :
    Calls Try.prog 13 #[.agg #[.slice A n c]] w fun e w' => e = .returned (.bool b) ∧ Below w.heap.size w w' := by
  subst hn hb; exact sEngineValid_any A c cs w h hs

end Go.Proofs.Ytinhcdppdnmlgaa

/- Contracts of the reference's functions on engines: copies, turns. -/
namespace Go.Proofs.Ytinhcdppdnmlgaa
open Go.RowKit
set_option maxRecDepth 4000

theorem ownsRow_slice {B : Nat} {E : TypeId} {w : World} {v : Value} {n : Nat} {xs : List Value} (h : w.ownsRow B E 1 v n xs) : ∃ A c, v = .slice A n c := by
  rcases h.2 with ⟨h1, h2⟩ | ⟨g, cap, cur, hv, _⟩
  · exact ⟨none, 0, by rw [h1, h2]⟩
  · exact ⟨_, _, hv⟩

/-- An engine of the call's own is returned; below B nothing has changed. -/
def RetE (E : TypeId) (B : Nat) (w : World) (cs : List ByteArray) (e : Ending) (w' : World) : Prop :=
  ∃ A c, e = .returned (.agg #[.slice A cs.length c]) ∧ OwnS E B w' A c cs ∧ Below B w w'
theorem RetE.own {E : TypeId} {B n c : Nat} {A : Option Addr} {w w' : World} {cs : List ByteArray} (h : OwnS E B w' A c cs) (hn : n = cs.length) (hb : Below B w w') : RetE E B w cs (.returned (.agg #[.slice A n c])) w' := by
  subst hn; exact ⟨_, _, rfl, h, hb⟩

/-- The same with the cell of a local struct in block g. -/
def Fr3 (w w1 : World) (v v2 : Value) (g : Nat) (v3 : Value) : Prop :=
  Fr w w1 v v2 ∧ (w1.cell? ⟨g, 0, none⟩ = some v3 ∧ w1.frozen? ⟨g, 0, none⟩ = false) ∧ w.heap.size + 2 ≤ g ∧ g < w1.heap.size

theorem Fr3.below {w w1 w2 : World} {v v2 v3 : Value} {g : Nat} (h : Fr3 w w1 v v2 g v3) (b : Below w1.heap.size w1 w2) : Fr3 w w2 v v2 g v3 := by
  obtain ⟨h1, ⟨h2, h3⟩, h4, h5⟩ := h
  refine ⟨h1.below b, ⟨?_, ?_⟩, h4, Nat.lt_of_lt_of_le h5 b.size⟩
  · rw [b.cell (p := ⟨g, 0, none⟩) h5]; exact h2
  · rw [b.frozen (p := ⟨g, 0, none⟩) h5]; exact h3
theorem Fr3.drew {w w1 : World} {v v2 v3 : Value} {g : Nat} (h : Fr3 w w1 v v2 g v3) : Fr3 w w1.drew v v2 g v3 :=
  ⟨⟨h.1.1, h.1.2.1, h.1.2.2.1, h.1.2.2.2.drew⟩, h.2.1, h.2.2⟩
theorem Fr3.set {w w1 : World} {v v2 v3 : Value} {g r k : Nat} (h : Fr3 w w1 v v2 g v3) (hr : w.heap.size + 2 ≤ r) (hrg : r ≠ g) (x : Value) : Fr3 w (w1.setCell ⟨r, k, none⟩ x) v v2 g v3 := by
  have gr := grown_set w1 ⟨r, k, none⟩ x
  obtain ⟨h1, ⟨h2, h3⟩, h4, h5⟩ := h
  have hb : (w1.setCell ⟨r, k, none⟩ x).heap[g]? = w1.heap[g]? := gr.block g h5 (by simpa using fun e => hrg e.symm)
  refine ⟨h1.grown gr hr, ⟨?_, ?_⟩, h4, Nat.lt_of_lt_of_le h5 gr.size⟩
  · rw [World.cell?_of_block (w := w1) hb]; exact h2
  · rw [World.frozen?_of_block (w := w1) hb]; exact h3
theorem Fr3.start {w w1 : World} {v v2 v3 : Value} (h : Fr w w1 v v2) (T : TypeId) : Fr3 w (w1.alloc (.cells #[v3] T)) v v2 w1.heap.size v3 := by
  have hg := heap_alloc_new w1 (.cells #[v3] T)
  refine ⟨h.alloc _, ⟨?_, ?_⟩, h.2.2.1, by simp⟩
  · rw [cell_of_row _ _ _ _ _ _ hg]; rfl
  · exact frozen_of_row _ _ _ _ _ hg

end Go.Proofs.Ytinhcdppdnmlgaa
