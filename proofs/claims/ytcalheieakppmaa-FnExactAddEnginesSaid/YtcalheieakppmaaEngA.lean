/- Contracts of the program's functions on engines: validity, results. -/
import Derived.Test.YtcalheieakppmaaColQ
namespace Go.Proofs.Ytcalheieakppmaa
open Go.RowKit
set_option maxRecDepth 4000

theorem engV_alike {cs : List ByteArray} {x : ByteArray} (hx : cs[0]? = some x) (h1 : 1 ≤ cs.length) (h7 : cs.length ≤ 7) : engV cs = cs.all fun c => alikeB x c := by
  have hh : cs.headD ByteArray.empty = x := by
    cases cs with
    | nil => simp at hx
    | cons c r => simp at hx; simpa using hx
  have hm : x ∈ cs := List.mem_of_getElem? hx
  rw [Bool.eq_iff_iff, engV_iff, hh, List.all_eq_true]
  constructor
  · rintro ⟨_, h⟩ c hc
    have h2 := h c hc
    have h3 := h x hm
    simp [alikeB, h2.1, h3.1, h2.2]
  · intro h
    refine ⟨⟨h1, h7⟩, fun c hc => ?_⟩
    have := h c hc
    simp only [alikeB, Bool.and_eq_true, decide_eq_true_eq] at this
    exact ⟨this.2.1, this.2.2.symm⟩

/-- No string is too long. -/
def Short (cs : List ByteArray) : Prop := ∀ s ∈ cs, s.size ≤ 1048576

set_option maxHeartbeats 800000 in
theorem EngineValid_any (A : Option Addr) (c : Nat) (cs : List ByteArray) (w : World) (h : SS w A cs) (hs : Short cs) :
    Calls Try.prog 61 #[.agg #[.slice A cs.length c]] w fun e w' => e = .returned (.bool (engV cs)) ∧ Below w.heap.size w w' := by
  have Hh := hd h
  have hl := h.len
  have Hs := hd hs
  clear h hs
  by_cases h1 : 1 ≤ cs.length
  case neg =>
    have Hf : Hid (engV cs = false) := hd (by simp [engV, h1])
    go_enter Try.func61, Try.ntmps61
    go_wp2
    go_ret
    exact ⟨ret_bool Hf.out.symm, (Below.refl _ _).alloc (Nat.le_refl _) _⟩
  by_cases h7 : cs.length ≤ 7
  case neg =>
    have Hf : Hid (engV cs = false) := hd (by simp [engV, h7])
    go_enter Try.func61, Try.ntmps61
    go_wp2
    go_ret
    exact ⟨ret_bool Hf.out.symm, (Below.refl _ _).alloc (Nat.le_refl _) _⟩
  obtain ⟨x, b0, off0, hx, hA, hb0, hc0⟩ := Hh.out.at_ (k := 0) (by omega)
  subst hA
  rw [Nat.add_zero] at hc0
  have Hf := hd (engV_alike hx h1 h7)
  have Hx := hd hx
  have hxs := Hs.out x (List.mem_of_getElem? hx)
  clear hx
  go_enter Try.func61, Try.ntmps61
  go_wp2
  go_loop [18] (fun i => ∃ k : Nat, k ≤ cs.length ∧ i = .int .i64 k ∧ (cs.take k).all (fun c => alikeB x c) = true) (fun i => cs.length - (intOf i).toNat)
  case atStart => exact ⟨0, by omega, rfl, by simp⟩
  case round =>
    obtain ⟨k, hk, rfl, ht⟩ := hrel
    have Ht := hd ht
    clear ht
    by_cases hlt : k < cs.length
    · obtain ⟨y, b, off, hy, he, hb, hc⟩ := Hh.out.at_ hlt
      simp only [Option.some.injEq, Addr.mk.injEq, and_true] at he
      obtain ⟨rfl, rfl⟩ := he
      have Hy := hd hy
      have hys := Hs.out y (List.mem_of_getElem? hy)
      clear hy
      cases hal : alikeB x y
      · have Hal := hd hal
        have Hg : Hid (engV cs = false) := hd (by rw [Hf.out]; exact all_false_of (fun c => alikeB x c) cs k y Hy.out hal)
        clear hal
        go_wp2_with fail
        refine (alike_b x y false _ (by omega) (by omega) Hal.out).mono ?_
        rintro e w' ⟨rfl, rfl⟩
        go_wp2
        go_ret
        exact ⟨ret_bool Hg.out.symm, (Below.refl _ _).alloc (Nat.le_refl _) _⟩
      · have Hal := hd hal
        clear hal
        go_wp2_with fail
        refine (alike_b x y true _ (by omega) (by omega) Hal.out).mono ?_
        rintro e w' ⟨rfl, rfl⟩
        go_wp2
        go_round
        case rel => exact ⟨k + 1, by omega, by go_num, all_take_succ _ _ _ _ Hy.out Ht.out Hal.out⟩
        case measure => simp [intOf]; omega
    · have hke : k = cs.length := by omega
      have Hg : Hid (engV cs = true) := hd (by have := Ht.out; rw [hke, List.take_length] at this; rw [Hf.out]; exact this)
      clear hke
      go_wp2
      go_ret
      exact ⟨ret_bool Hg.out.symm, (Below.refl _ _).alloc (Nat.le_refl _) _⟩

theorem EngineValid_b (n : Nat) (A : Option Addr) (c : Nat) (cs : List ByteArray) (b : Bool) (w : World) (hn : cs.length = n) (h : SS w A cs) (hs : Short cs) (hb : engV cs = b) :
    Calls Try.prog 61 #[.agg #[.slice A n c]] w fun e w' => e = .returned (.bool b) ∧ Below w.heap.size w w' := by
  subst hn hb; exact EngineValid_any A c cs w h hs

theorem short_eng {W : Nat} (h : W ≤ 12) (vs : List Int) : Short (eng W vs) := by
  intro s hs
  obtain ⟨x, _, rfl⟩ := List.mem_map.1 hs
  rw [showC_size]; omega

/-- An engine of the call's own is returned, and a bool; below B nothing has changed. -/
def RetEB (E : TypeId) (B : Nat) (w : World) (cs : List ByteArray) (ok : Bool) (e : Ending) (w' : World) : Prop :=
  ∃ A c, e = .returned (.tuple #[.agg #[.slice A cs.length c], .bool ok]) ∧ OwnS E B w' A c cs ∧ Below B w w'

theorem RetEB.none_ {E : TypeId} {B : Nat} {w w' : World} {cs : List ByteArray} {ok : Bool} (h : cs = []) (hok : ok = false) (hb : Below B w w') : RetEB E B w cs ok (.returned (.tuple #[.agg #[.slice none 0 0], .bool false])) w' := by
  subst h hok; exact ⟨none, 0, rfl, OwnG.nil_ _ _ _ _, hb⟩
theorem RetEB.own {E : TypeId} {B n c : Nat} {A : Option Addr} {w w' : World} {cs : List ByteArray} {ok : Bool} (h : OwnS E B w' A c cs) (hn : n = cs.length) (hok : ok = true) (hb : Below B w w') : RetEB E B w cs ok (.returned (.tuple #[.agg #[.slice A n c], .bool true])) w' := by
  subst hn hok; exact ⟨_, _, rfl, h, hb⟩

/-- What a function that turns engines returns: none for what is no engine. -/
def turnE (f : List Int → List Int) (cs : List ByteArray) : Option (List ByteArray) := if engV cs then some (eng (cs.headD ByteArray.empty).size (f (cs.map cval))) else none

end Go.Proofs.Ytcalheieakppmaa
