/- Contracts of both sides' ResultOf, for whatever comes in. -/
import Derived.Test.YtkmblobfamhoiaaGrE
import Derived.Test.YtkmblobfamhoiaaGrG
namespace Go.Proofs.Ytkmblobfamhoiaa
open Go.RowKit
set_option maxRecDepth 4000

set_option maxHeartbeats 800000 in
theorem l1Signed_c (W : Nat) (x : Int) (w : World) (h1 : 1 ≤ W) (h12 : W ≤ 12) :
    Calls Try.prog 75 #[.string (showC W x)] w fun e w' => e = .returned (.int .i64 (sgn W x)) ∧ w = w' := by
  obtain ⟨u, Hu⟩ : ∃ u, Hid (x % ten W = u) := ⟨_, hd rfl⟩
  have hu := mod_bd W x
  rw [Hu.out] at hu
  have ht := ten_bd W h12
  obtain ⟨hu1, hu2⟩ := hu
  obtain ⟨ht1, ht2⟩ := ht
  have hsz : Hid ((showC W x).size = W) := hd (showC_size W x)
  by_cases hc : u ≥ ten W / 2
  · have Hf : Hid (sgn W x = u - ten W) := hd (by rw [sgn, Hu.out, if_pos hc])
    go_enter Try.func75, Try.ntmps75
    go_wp2_with fail
    refine (l1Value_w W x u _ h1 h12 Hu.out).mono ?_
    rintro e w' ⟨rfl, rfl⟩
    go_wp2_with fail
    rw [hsz.out]
    refine (l1Ten_w W _ h12).mono ?_
    rintro e w' ⟨rfl, rfl⟩
    go_wp2_with fail
    rw [hsz.out]
    refine (l1Ten_w W _ h12).mono ?_
    rintro e w' ⟨rfl, rfl⟩
    go_wp2
    go_ret
    rw [Hf.out]
    exact ⟨rfl, rfl⟩
  · have Hf : Hid (sgn W x = u) := hd (by rw [sgn, Hu.out, if_neg hc])
    go_enter Try.func75, Try.ntmps75
    go_wp2_with fail
    refine (l1Value_w W x u _ h1 h12 Hu.out).mono ?_
    rintro e w' ⟨rfl, rfl⟩
    go_wp2_with fail
    rw [hsz.out]
    refine (l1Ten_w W _ h12).mono ?_
    rintro e w' ⟨rfl, rfl⟩
    go_wp2
    go_ret
    rw [Hf.out]
    exact ⟨rfl, rfl⟩

/-- What an engine shows. -/
def resF (cs : List ByteArray) : Int × Bool := if engV cs then (sgn (hsz cs) ((cvs cs).getD 0 0), true) else (0, false)

set_option maxHeartbeats 800000 in
theorem ResultOf_r (n : Nat) (A : Option Addr) (c : Nat) (cs : List ByteArray) (x : Int) (ok : Bool) (w : World) (hn : cs.length = n) (h : SS w A cs) (hs : Short cs) (hr : resF cs = (x, ok)) :
    Calls Try.prog 52 #[.agg #[.slice A n c]] w fun e w' => e = .returned (.tuple #[.int .i64 x, .bool ok]) ∧ Below w.heap.size w w' := by
  have Hh := hd h
  have Hs := hd hs
  have Hn := hd hn
  have Box := hd (Cl.new w (.slice A n c) 36)
  have Bel := hd ((Below.refl w.heap.size w).alloc (Nat.le_refl _) (.cells #[.slice A n c] 36))
  clear h hs hn
  cases hv : engV cs
  · have hr2 : (0, false) = (x, ok) := by rw [← hr, resF, hv]; rfl
    obtain ⟨rfl, rfl⟩ := Prod.mk.inj hr2
    have Hv := hd hv
    clear hv hr hr2
    go_enter Try.func52, Try.ntmps52
    go_wp2_with fail
    refine (EngineValid_b _ A c cs false _ Hn.out (Hh.out.alloc _) Hs.out Hv.out).mono ?_
    rintro e w1 ⟨rfl, b1⟩
    have Bel := hd (Bel.out.trans (b1.mono (by simp)))
    clear b1
    go_wp2
    go_ret2
    exact ⟨rfl, Bel.out⟩
  · have hr2 : (sgn (hsz cs) ((cvs cs).getD 0 0), true) = (x, ok) := by rw [← hr, resF, hv]; rfl
    obtain ⟨hx, rfl⟩ := Prod.mk.inj hr2
    obtain ⟨he, hW1, hW12, hn1, hn7⟩ := engV_vals hv
    obtain ⟨W, hW⟩ : ∃ W, W = hsz cs := ⟨_, rfl⟩
    obtain ⟨vs, hvs⟩ : ∃ vs, vs = cvs cs := ⟨_, rfl⟩
    rw [← hW, ← hvs] at he hx
    rw [← hW] at hW1 hW12
    rw [← hvs] at hn1
    have hl : vs.length = n := by rw [hvs, ← Hn.out]; simp [cvs]
    have hn0 : (0 : Int) < n := by omega
    obtain ⟨v0, hv0⟩ : ∃ v0, v0 = vs.getD 0 0 := ⟨_, rfl⟩
    have h0 : vs[0]? = some v0 := by rw [hv0, List.getD_eq_getElem?_getD, List.getElem?_eq_getElem (by omega)]; rfl
    rw [← hv0] at hx
    have Hx := hd hx
    have He := hd he
    have Hv := hd hv
    have H0 := hd (eng_at (W := W) h0)
    clear he hv hW hvs hr hr2 hx hv0 h0 hn7
    go_enter Try.func52, Try.ntmps52
    go_wp2_with fail
    refine (EngineValid_b _ A c cs true _ Hn.out (Hh.out.alloc _) Hs.out Hv.out).mono ?_
    rintro e w1 ⟨rfl, b1⟩
    have Bel2 := hd (Bel.out.trans (b1.mono (by simp)))
    have Box := hd (Box.out.below b1)
    have S1 : Hid (SS w1 A (eng W vs)) := hd (by rw [← He.out]; exact Hh.out.below Bel2.out)
    obtain ⟨s, b, off, hs, rfl, hb, hc⟩ := S1.out.at_ (k := 0) (by rw [eng_length]; omega)
    obtain rfl : s = showC W v0 := by rw [H0.out] at hs; injection hs with hs; exact hs.symm
    obtain ⟨c1, f1, -⟩ := Box.out
    clear b1 hs
    simp only [Nat.add_zero] at hb hc
    go_wp2_with fail
    refine (SignedOf_c W v0 _ hW1 hW12).mono ?_
    rintro e w2 ⟨rfl, rfl⟩
    go_wp2
    go_ret2
    rw [Hx.out]
    exact ⟨rfl, Bel2.out⟩

end Go.Proofs.Ytkmblobfamhoiaa
