/- Contracts of the laws' helpers on engines: sizes, copies, comparisons. -/
import Derived.Test.YtinhcdppdnmlgaaGrE
import Derived.Test.YtinhcdppdnmlgaaGrG
import Derived.BigQuiet
import Derived.Deep.QuietTactic
namespace Go.Proofs.Ytinhcdppdnmlgaa
open Go.RowKit
set_option maxRecDepth 4000

/-- What the look at sizes returns: none, or a number that tells that no string is too long. -/
def SzR (cs : List ByteArray) (w : World) (e : Ending) (w' : World) : Prop :=
  ∃ r : Int, e = .returned (.int .i64 r) ∧ r ≤ 1048576 ∧ (r = -1 ∨ 0 ≤ r ∧ Short cs) ∧ w = w'

theorem szStringS_big (A : Option Addr) (c n : Nat) (l : Int) (w : World) (h1 : 1048576 < n) (h2 : n ≤ 9223372036854775807) (hl0 : 0 ≤ l) (hl : l ≤ 1048576) :
    Calls Try.prog 12 #[.slice A n c, .int .i64 l] w fun e w' => e = .returned (.int .i64 (-1)) ∧ w = w' := by
  have e1 : IntKind.i64.wrap (l - n) = l - n := IntWalk.i64_in _ (by omega)
  have e2 : l - (n : Int) < 0 := by omega
  go_enter Try.func12, Try.ntmps12
  go_wp2
  go_ret
  exact ⟨rfl, rfl⟩

theorem short_take {cs : List ByteArray} {k : Nat} {s : ByteArray} (h : Short (cs.take k)) (hs : cs[k]? = some s) (hz : s.size ≤ 1048576) : Short (cs.take (k + 1)) := by
  obtain ⟨hk, rfl⟩ := List.getElem?_eq_some_iff.1 hs
  intro x hx
  rw [List.take_succ_eq_append_getElem hk] at hx
  rcases List.mem_append.1 hx with hx | hx
  · exact h x hx
  · simp at hx; subst hx; exact hz

set_option maxHeartbeats 800000 in
theorem szStringS_any (A : Option Addr) (c : Nat) (cs : List ByteArray) (l : Int) (w : World) (h : SS w A cs) (hb : cs.length ≤ 1048576) (hm : ∀ s ∈ cs, s.size ≤ maxLen) (hl0 : 0 ≤ l) (hl : l ≤ 1048576) :
    Calls Try.prog 12 #[.slice A cs.length c, .int .i64 l] w fun e w' => SzR cs w e w' := by
  have Hh := hd h
  have Hm := hd hm
  clear h hm
  by_cases hneg : l - (cs.length : Int) < 0
  · go_enter Try.func12, Try.ntmps12
    go_wp2
    go_ret
    exact ⟨-1, rfl, by omega, .inl rfl, rfl⟩
  · obtain ⟨l0, hl0e⟩ : ∃ l0, l0 = l - (cs.length : Int) := ⟨_, rfl⟩
    have hl1 : 0 ≤ l0 ∧ l0 ≤ 1048576 := by omega
    obtain ⟨hl2, hl3⟩ := hl1
    have Hle := hd hl0e
    clear hl0e
    go_enter Try.func12, Try.ntmps12
    go_wp2
    rw [← Hle.out]
    go_loop [1, 5] (fun x i => ∃ (k : Nat) (r : Int), k ≤ cs.length ∧ i = .int .i64 k ∧ x = .int .i64 r ∧ 0 ≤ r ∧ r ≤ 1048576 ∧ Short (cs.take k)) (fun _ i => cs.length - (intOf i).toNat)
    case atStart => exact ⟨0, l0, by omega, rfl, rfl, hl2, hl3, by simp [Short]⟩
    case round =>
      obtain ⟨k, r, hk, rfl, rfl, hr0, hr1, hsh⟩ := hrel
      have Hsh := hd hsh
      clear hsh
      by_cases hlt : k < cs.length
      · obtain ⟨s, b, off, hs, rfl, hbw, hc⟩ := Hh.out.at_ hlt
        have hsm := Hm.out s (List.mem_of_getElem? hs)
        unfold maxLen at hsm
        have Hs := hd hs
        have e1 : IntKind.i64.wrap (r - (s.size : Int)) = r - (s.size : Int) := IntWalk.i64_in _ (by omega)
        clear hs
        by_cases hng : r - (s.size : Int) < 0
        · go_wp2
          go_ret
          exact ⟨-1, rfl, by omega, .inl rfl, rfl⟩
        · have Hsh2 := hd (short_take Hsh.out Hs.out (by omega))
          go_wp2
          go_round
          case rel => exact ⟨k + 1, r - (s.size : Int), by omega, by go_num, rfl, by omega, by omega, Hsh2.out⟩
          case measure => simp [intOf]; omega
      · have Hf : Hid (Short cs) := hd (by have := Hsh.out; rwa [List.take_of_length_le (by omega)] at this)
        go_wp2
        go_ret
        exact ⟨r, rfl, hr1, .inr ⟨hr0, Hf.out⟩, rfl⟩

/-- The same, through the struct. -/
def SzE (cs : List ByteArray) (w : World) (e : Ending) (w' : World) : Prop :=
  ∃ r : Int, e = .returned (.int .i64 r) ∧ r ≤ 1048576 ∧ (r = -1 ∨ 0 ≤ r ∧ Short cs) ∧ Below w.heap.size w w'

theorem szEngine_big (A : Option Addr) (c n : Nat) (l : Int) (w : World) (h1 : 1048576 < n) (h2 : n ≤ 9223372036854775807) (hl0 : 0 ≤ l) (hl : l ≤ 1048576) :
    Calls Try.prog 5 #[.agg #[.slice A n c], .int .i64 l] w fun e w' => e = .returned (.int .i64 (-1)) ∧ Below w.heap.size w w' := by
  go_enter Try.func5, Try.ntmps5
  go_wp2_with fail
  refine (szStringS_big A c n l _ h1 h2 hl0 hl).mono ?_
  rintro e w' ⟨rfl, rfl⟩
  go_wp2
  go_ret
  exact ⟨rfl, (Below.refl _ _).alloc (Nat.le_refl _) _⟩

theorem szEngine_any (A : Option Addr) (c : Nat) (cs : List ByteArray) (l : Int) (w : World) (h : SS w A cs) (hb : cs.length ≤ 1048576) (hm : ∀ s ∈ cs, s.size ≤ maxLen) (hl0 : 0 ≤ l) (hl : l ≤ 1048576) :
    Calls Try.prog 5 #[.agg #[.slice A cs.length c], .int .i64 l] w fun e w' => SzE cs w e w' := by
  have Hh := hd h
  have Hm := hd hm
  clear h hm
  go_enter Try.func5, Try.ntmps5
  go_wp2_with fail
  refine (szStringS_any A c cs l _ (Hh.out.alloc _) hb Hm.out hl0 hl).mono ?_
  rintro e w' ⟨r, rfl, hr1, hr2, rfl⟩
  rcases hr2 with rfl | ⟨hr0, hsh⟩
  · go_wp2
    go_ret
    exact ⟨-1, rfl, by omega, .inl rfl, (Below.refl _ _).alloc (Nat.le_refl _) _⟩
  · have Hsh := hd hsh
    clear hsh
    go_wp2
    go_ret
    exact ⟨r, rfl, hr1, .inr ⟨hr0, Hsh.out⟩, (Below.refl _ _).alloc (Nat.le_refl _) _⟩

set_option maxHeartbeats 800000 in
theorem toStringS_any (A : Option Addr) (c : Nat) (cs : List ByteArray) (w : World) (h : SS w A cs) (hl : cs.length ≤ 1048576) :
    Calls Try.prog 15 #[.slice A cs.length c] w fun e w' => RetG Value.string 9 w.heap.size w cs e w' := by
  obtain ⟨i0, hi, hz0, hz1, hz2⟩ := info_parts infoS
  have Hh := hd h
  clear h
  go_enter Try.func15, Try.ntmps15
  go_wp2_with (at_make; refine wpList_make_full _ rfl _ _ 22 rfl w.heap.size 9 i0 (.string ByteArray.empty) 1 Try.underlying22 hi hz0 hz1 .i64 .i64 _ _ cs.length rfl rfl rfl rfl (by rw [hz2]; omega) (by unfold maxLen; omega) (Nat.le_refl _) ?_; intro w1 hown hgrow)
  have Hown0 : Hid (OwnS 9 w.heap.size w1 (some ⟨w.heap.size, 0, none⟩) cs.length (List.replicate cs.length ByteArray.empty)) := hd (OwnG.made ByteArray.empty rfl hown (by omega))
  have Hbel0 : Hid (Below w.heap.size w w1) := hd ((Below.refl _ _).grown hgrow (Nat.le_refl _) (by simp))
  clear hown hgrow
  go_wp2
  go_loopw [4] (fun i wr => ∃ (k : Nat) (xs : List ByteArray), k ≤ cs.length ∧ i = .int .i64 k ∧ xs.length = cs.length ∧ xs.take k = cs.take k ∧ OwnS 9 w.heap.size wr (some ⟨w.heap.size, 0, none⟩) cs.length xs ∧ Below w.heap.size w wr)
    (fun i _ => cs.length - (intOf i).toNat)
  case atStart => exact ⟨0, List.replicate cs.length ByteArray.empty, by omega, rfl, by simp, rfl, Hown0.out, Hbel0.out⟩
  case round =>
    clear Hown0 Hbel0
    obtain ⟨k, xs, hk, rfl, hxl, hxt, own, bel⟩ := hrel
    have Hxl := hd hxl
    have Hxt := hd hxt
    have Own := hd own
    have Bel := hd bel
    clear hxl hxt own bel
    by_cases hlt : k < cs.length
    · obtain ⟨s, b, off, hs, rfl, hbw, hc⟩ := (Hh.out.below Bel.out).at_ hlt
      obtain ⟨g', o, ho, hg', hco, hfo⟩ := Own.out.at_ (k := k) (by rw [Hxl.out]; exact hlt)
      simp only [Option.some.injEq, Addr.mk.injEq, and_true] at hg'
      subst hg'
      have Hs := hd hs
      clear hs ho
      go_wp2
      go_roundw
      case rel => exact ⟨k + 1, xs.set k s, by omega, by go_num, by rw [List.length_set]; exact Hxl.out, take_set_succ (by rw [Hxl.out]; exact hlt) Hxt.out Hs.out, Own.out.set k s, Bel.out.setCell (Nat.le_refl _) _⟩
      case measure => simp [intOf]; omega
    · have Hx : Hid (xs = cs) := hd (by
        have h1 := Hxt.out
        rwa [List.take_of_length_le (by rw [Hxl.out]; omega), List.take_of_length_le (by omega)] at h1)
      have Hr : Hid (RetG Value.string 9 w.heap.size w cs (.returned (.slice (some ⟨w.heap.size, 0, none⟩) cs.length cs.length)) wr) := hd (by
        have h2 := Own.out
        rw [Hx.out] at h2
        exact RetG.own h2 rfl Bel.out)
      clear Own Bel
      go_wp2
      go_ret
      exact Hr.out

theorem take_succ_eqG {α : Type} {xs ys : List α} {k : Nat} {x : α} (h : xs.take k = ys.take k) (hx : xs[k]? = some x) (hy : ys[k]? = some x) : xs.take (k + 1) = ys.take (k + 1) := by
  obtain ⟨h1, h2⟩ := List.getElem?_eq_some_iff.1 hx
  obtain ⟨h3, h4⟩ := List.getElem?_eq_some_iff.1 hy
  rw [List.take_succ_eq_append_getElem h1, List.take_succ_eq_append_getElem h3, h, h2, h4]

/-- Equal lists of strings. -/
theorem eqStringS_same (n : Nat) (A A' : Option Addr) (c c' : Nat) (xs : List ByteArray) (w : World) (hn : xs.length = n) (h : SS w A xs) (h' : SS w A' xs) :
    Calls Try.prog 18 #[.slice A n c, .slice A' n c'] w fun e w' => e = .returned (.bool true) ∧ Below w.heap.size w w' := by
  subst hn
  have hl1 := h.len
  have Hh := hd h
  have Hh' := hd h'
  have hlen' : ((xs.length : Int) != xs.length) = false := by simp
  clear h h'
  go_enter Try.func18, Try.ntmps18
  go_wp2
  go_loopw [5] (fun i wr => ∃ k : Nat, k ≤ xs.length ∧ i = .int .i64 k ∧ Below w.heap.size w wr) (fun i _ => xs.length - (intOf i).toNat)
  case atStart => exact ⟨0, by omega, rfl, Below.refl _ _⟩
  case round =>
    obtain ⟨k, hk, rfl, hbel⟩ := hrel
    by_cases hlt : k < xs.length
    · obtain ⟨x, b, off, hx, rfl, hbw, hc⟩ := (Hh.out.below hbel).at_ hlt
      obtain ⟨y, b', off', hy, rfl, hbw', hc'⟩ := (Hh'.out.below hbel).at_ hlt
      obtain rfl : x = y := by rw [hx] at hy; injection hy
      clear hx hy
      go_wp2
      go_quiet (fail)
      go_wp2
      go_roundw
      case rel => exact ⟨k + 1, by omega, by go_num, below_drewN hbel _⟩
      case measure => simp [intOf]; omega
    · go_wp2
      go_ret
      exact ⟨rfl, hbel⟩

theorem eqEngine_same (n : Nat) (A A' : Option Addr) (c c' : Nat) (xs : List ByteArray) (w : World) (hn : xs.length = n) (h : SS w A xs) (h' : SS w A' xs) :
    Calls Try.prog 9 #[.agg #[.slice A n c], .agg #[.slice A' n c']] w fun e w' => e = .returned (.bool true) ∧ Below w.heap.size w w' := by
  have Hh := hd h
  have Hh' := hd h'
  have Hb := hd ((((Below.refl w.heap.size w).alloc (Nat.le_refl _) (.cells #[.slice A n c] 27)).alloc (by simp) (.cells #[.slice A' n c'] 27)))
  clear h h'
  go_enter Try.func9, Try.ntmps9
  go_wp2_with fail
  refine (eqStringS_same n A A' c c' xs _ hn ((Hh.out.alloc _).alloc _) ((Hh'.out.alloc _).alloc _)).mono ?_
  rintro e w1 ⟨rfl, b1⟩
  have Hb2 := hd (Hb.out.trans (b1.mono (by simp; omega)))
  clear b1
  go_wp2
  go_ret
  exact ⟨rfl, Hb2.out⟩

set_option maxHeartbeats 800000 in
theorem toEngine_any (A : Option Addr) (c n : Nat) (cs : List ByteArray) (w : World) (h : SS w A cs) (hn : cs.length = n) (hl : n ≤ 1048576) :
    Calls Try.prog 7 #[.agg #[.slice A n c]] w fun e w' => RetE 9 w.heap.size w cs e w' := by
  subst hn
  have Hh := hd h
  have F0 := hd (Fr3.start (v3 := .slice none 0 0) (Fr.start w (.slice A cs.length c) (.slice none 0 0) 24 27) 27)
  have hsz : ((w.alloc (.cells #[.slice A cs.length c] 24)).alloc (.cells #[.slice none 0 0] 27)).heap.size = w.heap.size + 2 := by simp
  rw [hsz] at F0
  clear h hsz
  go_enter Try.func7, Try.ntmps7
  go_wp2_with fail
  refine (toStringS_any A c cs _ (((Hh.out.alloc _).alloc _).alloc _) hl).mono ?_
  rintro e w1 ⟨A1, c1, rfl, own1, b1⟩
  have F1 := hd (F0.out.below b1)
  have Own1 := hd (own1.low (B' := w.heap.size + 3) (by simp))
  obtain ⟨⟨⟨q1, q2⟩, ⟨q3, q4⟩, q5, Bel⟩, ⟨q6, q7⟩, q8, q9⟩ := F1.out
  have Ow1 := hd (Own1.out.keep_lo (grown_set w1 ⟨w.heap.size + 2, 0, none⟩ (.slice A1 cs.length c1)) (fun r hr => by simp at hr; omega))
  have Ow2 := hd ((Ow1.out.keep_lo (grown_set _ ⟨w.heap.size + 1, 0, none⟩ (.slice A1 cs.length c1)) (fun r hr => by simp at hr; omega)).low (show w.heap.size ≤ w.heap.size + 3 by omega))
  have Bl2 := hd ((Bel.setCell (p := ⟨w.heap.size + 2, 0, none⟩) (show w.heap.size ≤ w.heap.size + 2 by omega) (.slice A1 cs.length c1)).setCell (p := ⟨w.heap.size + 1, 0, none⟩) (show w.heap.size ≤ w.heap.size + 1 by omega) (.slice A1 cs.length c1))
  clear own1 b1
  go_wp2
  refine bodyPost_ret (v := .agg #[.slice A1 cs.length c1]) ?_ rfl (RetE.own Ow2.out rfl Bl2.out)
  simp [results, Try.results7, q3, go_sem]

end Go.Proofs.Ytinhcdppdnmlgaa
