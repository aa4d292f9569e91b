/- Contracts of both sides' CapacityOf and SetUp, for whatever comes in. -/
import Derived.Test.YtkmblobfamhoiaaGrJ
import Derived.Test.YtkmblobfamhoiaaPolyH
import Derived.Test.YtkmblobfamhoiaaGrC
import Derived.Test.YtkmblobfamhoiaaSpecE
namespace Go.Proofs.Ytkmblobfamhoiaa
open Go.RowKit
set_option maxRecDepth 4000

def capF (p : List Int) (frm N most : Int) : Int := match valsP p frm most with
  | some vs => if wV N then ((capN vs N.toNat : Nat) : Int) else -1
  | none => -1
theorem capF_none {p : List Int} {frm N most : Int} (h : valsP p frm most = none) : capF p frm N most = -1 := by rw [capF, h]
theorem capF_out {p : List Int} {frm N most : Int} (h : wV N = false) : capF p frm N most = -1 := by
  rw [capF]
  split
  · rw [if_neg (by rw [h]; simp)]
  · rfl
theorem capF_some {p vs : List Int} {frm most : Int} {W : Nat} (h : valsP p frm most = some vs) (hw : wV (W : Int) = true) : capF p frm W most = ((capN vs W : Nat) : Int) := by
  rw [capF, h]
  simp only [hw, if_true, Int.toNat_natCast]

def AllFit (vs : List Int) (W k : Nat) : Prop := ∀ i x, i < k → vs[i]? = some x → fitsB x W = true
theorem AllFit.zero (vs : List Int) (W : Nat) : AllFit vs W 0 := fun i _ h => absurd h (by omega)
theorem AllFit.succ {vs : List Int} {W k : Nat} {x : Int} (h : AllFit vs W k) (hx : vs[k]? = some x) (hf : fitsB x W = true) : AllFit vs W (k + 1) := by
  intro i y hi hy
  by_cases e : i = k
  · subst e; rw [hx] at hy; injection hy with hy; subst hy; exact hf
  · exact h i y (by omega) hy

set_option maxHeartbeats 1600000 in
theorem CapacityOf_any (A : Option Addr) (c : Nat) (p : List Int) (frm N most : Int) (w : World) (h : SI w A p) :
    Calls Try.prog 58 #[.slice A p.length c, .int .i64 frm, .int .i64 N, .int .i64 most] w fun e w' => e = .returned (.int .i64 (capF p frm N most)) ∧ Below w.heap.size w w' := by
  have Hh := hd h
  clear h
  cases hr : valsP p frm most with
  | none =>
    have Hf := hd (capF_none (N := N) hr)
    have Hr := hd hr
    clear hr
    go_enter Try.func58, Try.ntmps58
    go_wp2_with fail
    refine (ValuesOf_any A c p frm most _ Hh.out).mono ?_
    rintro e w1 ⟨A2, c2, rfl, own2, b2⟩
    simp only [Hr.out, Option.getD_none, Option.isSome_none]
    clear own2
    go_wp2
    go_ret
    rw [Hf.out]
    exact ⟨rfl, b2⟩
  | some vs =>
    have Hr := hd hr
    have hvl : vs.length ≤ 60 := by have := valsP_some hr; omega
    cases hw : wV N
    · have Hf := hd (capF_out (p := p) (frm := frm) (most := most) hw)
      clear hr
      go_enter Try.func58, Try.ntmps58
      go_wp2_with fail
      refine (ValuesOf_any A c p frm most _ Hh.out).mono ?_
      rintro e w1 ⟨A2, c2, rfl, own2, b2⟩
      simp only [Hr.out, Option.getD_some, Option.isSome_some]
      clear own2
      go_wp2_with fail
      refine (widthValid_b N false _ hw).mono ?_
      rintro e w' ⟨rfl, rfl⟩
      go_wp2
      go_ret
      rw [Hf.out]
      exact ⟨rfl, b2⟩
    · obtain ⟨W, rfl, h1, h12⟩ := wV_nat hw
      have Hf := hd (capF_some hr hw)
      clear hr
      go_enter Try.func58, Try.ntmps58
      go_wp2_with fail
      refine (ValuesOf_any A c p frm most _ Hh.out).mono ?_
      rintro e w1 ⟨A2, c2, rfl, own2, b2⟩
      rw [Hr.out] at own2
      simp only [Hr.out, Option.getD_some, Option.isSome_some]
      simp only [Option.getD_some] at own2
      have HS := hd own2.si
      have Bel := hd b2
      clear own2 b2
      go_wp2_with fail
      refine (widthValid_b W true _ hw).mono ?_
      rintro e w' ⟨rfl, rfl⟩
      go_wp2
      go_loopw [31] (fun i wr => ∃ k : Nat, k ≤ vs.length ∧ i = .int .i64 k ∧ AllFit vs W k ∧ SI wr A2 vs ∧ Below w.heap.size w wr) (fun i _ => vs.length - (intOf i).toNat)
      case atStart => exact ⟨0, by omega, rfl, AllFit.zero _ _, HS.out, Bel.out⟩
      case round =>
        clear HS Bel
        obtain ⟨k, hk, rfl, hok, hs, hb⟩ := hrel
        have Hok := hd hok
        have HS := hd hs
        have Bel := hd hb
        clear hok hs hb
        by_cases hlt : k < vs.length
        · obtain ⟨x, b, off, hx, rfl, hbw, hc⟩ := HS.out.at_ hlt
          have Hx := hd hx
          clear hx
          cases hfx : fitsB x W
          · have Hco := hd (colO_not hfx)
            have Hcap : Hid (capN vs W = k) := hd (capN_at (fun i y hi hy => Hok.out i y hi hy) (.inl ⟨x, Hx.out, hfx⟩))
            go_wp2_with fail
            refine (ColumnOf_any x W _).mono ?_
            rintro e w4 ⟨rfl, b4⟩
            simp only [Hco.out, Option.getD_none, Option.isSome_none]
            have Bel4 := hd (Bel.out.trans (b4.mono Bel.out.size))
            clear b4
            go_wp2
            go_ret
            rw [Hf.out, Hcap.out]
            exact ⟨rfl, Bel4.out⟩
          · have Hco := hd (colO_yes h1 h12 hfx)
            have Hnx := hd (Hok.out.succ Hx.out hfx)
            go_wp2_with fail
            refine (ColumnOf_any x W _).mono ?_
            rintro e w4 ⟨rfl, b4⟩
            simp only [Hco.out, Option.getD_some, Option.isSome_some]
            have Bel4 := hd (Bel.out.trans (b4.mono Bel.out.size))
            have HS4 := hd (HS.out.below b4)
            clear b4
            go_wp2
            go_roundw
            case rel => exact ⟨k + 1, by omega, by go_num, Hnx.out, HS4.out, Bel4.out⟩
            case measure => simp [intOf] <;> omega
        · obtain rfl : k = vs.length := by omega
          have Hcap : Hid (capN vs W = vs.length) := hd (capN_at (fun i y hi hy => Hok.out i y hi hy) (.inr rfl))
          go_wp2
          go_ret
          rw [Hf.out, Hcap.out]
          exact ⟨rfl, Bel.out⟩

set_option maxHeartbeats 1600000 in
theorem sCapacityOf_any (A : Option Addr) (c : Nat) (p : List Int) (frm N most : Int) (w : World) (h : SI w A p) :
    Calls Try.prog 59 #[.slice A p.length c, .int .i64 frm, .int .i64 N, .int .i64 most] w fun e w' => e = .returned (.int .i64 (capF p frm N most)) ∧ Below w.heap.size w w' := by
  have Hh := hd h
  clear h
  cases hr : valsP p frm most with
  | none =>
    have Hf := hd (capF_none (N := N) hr)
    have Hr := hd hr
    clear hr
    go_enter Try.func59, Try.ntmps59
    go_wp2_with fail
    refine (sValuesOf_any A c p frm most _ Hh.out).mono ?_
    rintro e w1 ⟨A2, c2, rfl, own2, b2⟩
    simp only [Hr.out, Option.getD_none, Option.isSome_none]
    clear own2
    go_wp2
    go_ret
    rw [Hf.out]
    exact ⟨rfl, b2⟩
  | some vs =>
    have Hr := hd hr
    have hvl : vs.length ≤ 60 := by have := valsP_some hr; omega
    cases hw : wV N
    · have Hf := hd (capF_out (p := p) (frm := frm) (most := most) hw)
      clear hr
      go_enter Try.func59, Try.ntmps59
      go_wp2_with fail
      refine (sValuesOf_any A c p frm most _ Hh.out).mono ?_
      rintro e w1 ⟨A2, c2, rfl, own2, b2⟩
      simp only [Hr.out, Option.getD_some, Option.isSome_some]
      clear own2
      go_wp2_with fail
      refine (l1Width_b N false _ hw).mono ?_
      rintro e w' ⟨rfl, rfl⟩
      go_wp2
      go_ret
      rw [Hf.out]
      exact ⟨rfl, b2⟩
    · obtain ⟨W, rfl, h1, h12⟩ := wV_nat hw
      have Hf := hd (capF_some hr hw)
      clear hr
      go_enter Try.func59, Try.ntmps59
      go_wp2_with fail
      refine (sValuesOf_any A c p frm most _ Hh.out).mono ?_
      rintro e w1 ⟨A2, c2, rfl, own2, b2⟩
      rw [Hr.out] at own2
      simp only [Hr.out, Option.getD_some, Option.isSome_some]
      simp only [Option.getD_some] at own2
      have HS := hd own2.si
      have Bel := hd b2
      clear own2 b2
      go_wp2_with fail
      refine (l1Width_b W true _ hw).mono ?_
      rintro e w' ⟨rfl, rfl⟩
      go_wp2
      go_loop [11] (fun i => ∃ k : Nat, k ≤ vs.length ∧ i = .int .i64 k ∧ AllFit vs W k) (fun i => vs.length - (intOf i).toNat)
      case atStart => exact ⟨0, by omega, rfl, AllFit.zero _ _⟩
      case round =>
        obtain ⟨k, hk, rfl, hok⟩ := hrel
        have Hok := hd hok
        clear hok
        by_cases hlt : k < vs.length
        · obtain ⟨x, b, off, hx, rfl, hbw, hc⟩ := HS.out.at_ hlt
          have Hx := hd hx
          clear hx
          cases hfx : fitsB x W
          · have Hcap : Hid (capN vs W = k) := hd (capN_at (fun i y hi hy => Hok.out i y hi hy) (.inl ⟨x, Hx.out, hfx⟩))
            go_wp2_with fail
            refine (l1Fits_b x W false _ h1 h12 hfx).mono ?_
            rintro e w4 ⟨rfl, rfl⟩
            go_wp2
            go_ret
            rw [Hf.out, Hcap.out]
            exact ⟨rfl, Bel.out⟩
          · have Hnx := hd (Hok.out.succ Hx.out hfx)
            go_wp2_with fail
            refine (l1Fits_b x W true _ h1 h12 hfx).mono ?_
            rintro e w4 ⟨rfl, rfl⟩
            go_wp2
            go_round
            case rel => exact ⟨k + 1, by omega, by go_num, Hnx.out⟩
            case measure => simp [intOf] <;> omega
        · obtain rfl : k = vs.length := by omega
          have Hcap : Hid (capN vs W = vs.length) := hd (capN_at (fun i y hi hy => Hok.out i y hi hy) (.inr rfl))
          go_wp2
          go_ret
          rw [Hf.out, Hcap.out]
          exact ⟨rfl, Bel.out⟩

theorem CapacityOf_z (N1 N2 N3 : Int) (A : Option Addr) (c n : Nat) (p : List Int) (z : Int) (w : World) (hn : p.length = n) (h : SG (Value.int .i64) w A p) (hz : capF p N1 N2 N3 = z) :
    Calls Try.prog 58 #[.slice A n c, .int .i64 N1, .int .i64 N2, .int .i64 N3] w fun e w' => e = .returned (.int .i64 z) ∧ Below w.heap.size w w' := by
  subst hn hz; exact CapacityOf_any A c p N1 N2 N3 w h
theorem sCapacityOf_z (N1 N2 N3 : Int) (A : Option Addr) (c n : Nat) (p : List Int) (z : Int) (w : World) (hn : p.length = n) (h : SG (Value.int .i64) w A p) (hz : capF p N1 N2 N3 = z) :
    Calls Try.prog 59 #[.slice A n c, .int .i64 N1, .int .i64 N2, .int .i64 N3] w fun e w' => e = .returned (.int .i64 z) ∧ Below w.heap.size w w' := by
  subst hn hz; exact sCapacityOf_any A c p N1 N2 N3 w h

end Go.Proofs.Ytkmblobfamhoiaa
