/- Contracts of both sides' TurnHalves, for whatever comes in. -/
import Derived.Test.YtkmblobfamhoiaaGrE
import Derived.Test.YtkmblobfamhoiaaSpeP
namespace Go.Proofs.Ytkmblobfamhoiaa
open Go.RowKit
set_option maxRecDepth 4000

/-- Both halves of a turn, one after the other. -/
def halvesV (vs : List Int) : List Int := halfV 1 (halfV 0 vs)
theorem halvesV_length (vs : List Int) : (halvesV vs).length = vs.length := by rw [halvesV, halfV_length, halfV_length]

set_option maxHeartbeats 800000 in
theorem l3Halves_any (W : Nat) (vs : List Int) (A : Option Addr) (c n : Nat) (w : World) (h : SS w A (eng W vs)) (h1 : 1 ≤ W) (h12 : W ≤ 12) (hn : vs.length = n) (hn1 : 1 ≤ n) (hn7 : n ≤ 7) :
    Calls Try.prog 81 #[.agg #[.slice A n c]] w fun e w' => RetE 9 w.heap.size w (eng W (halvesV vs)) e w' := by
  have Hh := hd h
  have Hn := hd hn
  have F0 := hd (Fr.start w (.slice A n c) (.slice none 0 0) 36 36)
  have Hl1 : Hid ((eng W (halfV 0 vs)).length = n) := hd (by rw [eng_length, halfV_length, hn])
  have Hl2 : Hid ((eng W (halvesV vs)).length = n) := hd (by rw [eng_length, halvesV_length, hn])
  clear h hn
  go_enter Try.func81, Try.ntmps81
  go_wp2_with fail
  refine (l3Half_any W 0 vs A c n _ ((Hh.out.alloc _).alloc _) h1 h12 Hn.out hn1 hn7 (by decide)).mono ?_
  rintro e w1 ⟨A1, c1, rfl, own1, b1⟩
  have F1 := hd (F0.out.below b1)
  have Own1 := hd own1
  rw [Hl1.out]
  clear own1 b1
  go_wp2_with fail
  refine (l3Half_any W 1 (halfV 0 vs) A1 c1 n _ Own1.out.sg h1 h12 (by rw [halfV_length]; exact Hn.out) hn1 hn7 (by decide)).mono ?_
  rintro e w2 ⟨A2, c2, rfl, own2, b2⟩
  have hszz : w.heap.size ≤ w1.heap.size := F1.out.2.2.2.size
  have F2 := hd (F1.out.below b2)
  have Own : Hid (OwnS 9 w1.heap.size (w2.setCell ⟨w.heap.size + 1, 0, none⟩ (.slice A2 n c2)) A2 c2 (eng W (halvesV vs))) := hd (own2.keep_lo (grown_set w2 ⟨w.heap.size + 1, 0, none⟩ (.slice A2 n c2)) (fun r hr => by simp at hr; have := F1.out.2.2.1; omega))
  have hl3 := Hl2.out
  rw [halvesV] at hl3
  rw [hl3]
  obtain ⟨⟨d1, f1⟩, ⟨d2, f2⟩, -, -⟩ := F2.out
  clear b2 own2 hl3
  go_wp2
  exact bodyPost_ret (v := .agg #[.slice A2 n c2]) (by simp [results, Try.results81, d2, go_sem]) rfl (RetE.own (Own.out.low hszz) Hl2.out.symm (F2.out.done _))

theorem Same.mod_ {W : Nat} (a : List Int) : Same W (a.map (· % ten W)) a :=
  ⟨by simp, fun i => by
    rw [List.getD_eq_getElem?_getD, List.getElem?_map, List.getD_eq_getElem?_getD]
    cases a[i]? with
    | none => rfl
    | some x => exact Int.emod_emod_of_dvd _ (Int.dvd_refl _)⟩
theorem Same.half {W : Nat} {a b : List Int} (h : Same W a b) (f : Nat) : Same W (halfV f a) (halfV f b) := by
  refine ⟨by rw [halfV_length, halfV_length, h.1], fun i => ?_⟩
  by_cases hi : i < a.length
  · rw [getD_at (halfV_at hi), getD_at (halfV_at (by rw [← h.1]; exact hi))]
    split
    · exact add_mod2 (h.2 i) (h.2 (i + 1))
    · exact h.2 i
  · rw [getD_none (by rw [halfV_length]; omega), getD_none (by rw [halfV_length, ← h.1]; omega)]
theorem cvs_eng (W : Nat) (vs : List Int) : cvs (eng W vs) = vs.map (· % ten W) := by
  simp only [cvs, eng, List.map_map]
  exact List.map_congr_left fun v _ => cval_showC W v
theorem turnF_half {W : Nat} {vs : List Int} (f : Nat) (h1 : 1 ≤ W) (h2 : W ≤ 12) (h3 : 1 ≤ vs.length) (h4 : vs.length ≤ 7) : turnF (halfV f) (eng W vs) = some (eng W (halfV f vs)) := by
  rw [turnF_some (engV_eng h1 h2 h3 h4), hsz_eng h3, cvs_eng, eng_congr (Same.half (Same.mod_ vs) f)]

theorem retEO_is {E : TypeId} {B : Nat} {w : World} {r : Option (List ByteArray)} {z : List ByteArray} {ok : Bool} {P : Program} {f : FuncId} {args : Array Value} (h : Calls P f args w fun e w' => RetEO E B w r e w') (hz : r.getD [] = z) (hok : r.isSome = ok) : Calls P f args w fun e w' => RetEB E B w z ok e w' := by
  subst hz hok; exact h

set_option maxHeartbeats 800000 in
theorem TurnHalves_any (A : Option Addr) (c : Nat) (cs : List ByteArray) (w : World) (h : SS w A cs) (hs : Short cs) :
    Calls Try.prog 82 #[.agg #[.slice A cs.length c]] w fun e w' => RetEO 9 w.heap.size w (turnF halvesV cs) e w' := by
  have Hh := hd h
  have Hs := hd hs
  have F0 := hd (Fr.start w (.slice A cs.length c) (.slice none 0 0) 36 36)
  clear h hs
  cases hv : engV cs
  · have Hf : Hid (turnF halvesV cs = none) := hd (turnF_none hv)
    have Hg : Hid (turnF (halfV 0) cs = none) := hd (turnF_none hv)
    clear hv
    go_enter Try.func82, Try.ntmps82
    go_wp2_with fail
    refine (retEO_is (z := []) (ok := false) (TurnFirst_any A c cs _ ((Hh.out.alloc _).alloc _) Hs.out) (by rw [Hg.out]; rfl) (by rw [Hg.out]; rfl)).mono ?_
    rintro e w1 ⟨A1, c1, rfl, own1, b1⟩
    have F1 := hd (F0.out.below b1)
    rw [List.length_nil]
    have F3 := hd (Fr3.start (v3 := .slice A1 0 c1) F1.out 36)
    obtain ⟨⟨⟨d1, f1⟩, ⟨d2, f2⟩, -, -⟩, -⟩ := F3.out
    clear own1 b1
    go_wp2
    exact bodyPost_ret (v := .tuple #[.agg #[.slice none 0 0], .bool false]) (by simp [results, Try.results82, d2, go_sem]) rfl (RetEO.none_ Hf.out (F3.out.1.done _))
  · have Hf := hd (turnF_some (f := halvesV) hv)
    have Hg := hd (turnF_some (f := halfV 0) hv)
    obtain ⟨he, hW1, hW12, hn1, hn7⟩ := engV_vals hv
    have hl : (cvs cs).length = cs.length := by simp [cvs]
    obtain ⟨W, hW⟩ : ∃ W, W = hsz cs := ⟨_, rfl⟩
    obtain ⟨vs, hvs⟩ : ∃ vs, vs = cvs cs := ⟨_, rfl⟩
    rw [← hW, ← hvs] at Hf Hg
    rw [← hW] at hW1 hW12
    rw [← hvs] at hn1 hn7 hl
    have Hl1 : Hid ((eng W (halfV 0 vs)).length = cs.length) := hd (by rw [eng_length, halfV_length, hl])
    have Hl2 : Hid ((eng W (halvesV vs)).length = cs.length) := hd (by rw [eng_length, halvesV_length, hl])
    have Hk : Hid (turnF (halfV 1) (eng W (halfV 0 vs)) = some (eng W (halvesV vs))) := hd (turnF_half 1 hW1 hW12 (by rw [halfV_length]; exact hn1) (by rw [halfV_length]; exact hn7))
    have Hsh := hd (short_eng hW12 (halfV 0 vs))
    clear he hv hW hvs hl hn1 hn7
    go_enter Try.func82, Try.ntmps82
    go_wp2_with fail
    refine (retEO_is (z := eng W (halfV 0 vs)) (ok := true) (TurnFirst_any A c cs _ ((Hh.out.alloc _).alloc _) Hs.out) (by rw [Hg.out]; rfl) (by rw [Hg.out]; rfl)).mono ?_
    rintro e w1 ⟨A1, c1, rfl, own1, b1⟩
    have F1 := hd (F0.out.below b1)
    have F3 := hd (Fr3.start (v3 := .slice A1 cs.length c1) F1.out 36)
    have Own1 := hd (own1.alloc (.cells #[.slice A1 cs.length c1] 36))
    have hszz : w.heap.size ≤ w1.heap.size := F1.out.2.2.2.size
    rw [Hl1.out]
    obtain ⟨⟨⟨d1, f1⟩, ⟨d2, f2⟩, -, -⟩, ⟨d3, f3⟩, -⟩ := F3.out
    clear own1 b1
    go_wp2_with fail
    have Hcall := hd (retEO_is (z := eng W (halvesV vs)) (ok := true) (TurnSecond_any A1 c1 (eng W (halfV 0 vs)) _ Own1.out.sg Hsh.out) (by rw [Hk.out]; rfl) (by rw [Hk.out]; rfl))
    rw [Hl1.out] at Hcall
    refine Hcall.out.mono ?_
    rintro e w2 ⟨A2, c2, rfl, own2, b2⟩
    rw [Hl2.out]
    clear d1 f1 d2 f2 d3 f3 Hcall
    have F4 := hd (F3.out.below b2)
    have Own : Hid (OwnS 9 (w1.heap.size + 1) (w2.setCell ⟨w.heap.size + 1, 0, none⟩ (.slice A2 cs.length c2)) A2 c2 (eng W (halvesV vs))) := hd ((own2.low (by simp)).keep_lo (grown_set w2 ⟨w.heap.size + 1, 0, none⟩ (.slice A2 cs.length c2)) (fun r hr => by simp at hr; have := F1.out.2.2.1; omega))
    obtain ⟨⟨⟨d1, f1⟩, ⟨d2, f2⟩, -, -⟩, -⟩ := F4.out
    clear b2 own2
    go_wp2
    exact bodyPost_ret (v := .tuple #[.agg #[.slice A2 cs.length c2], .bool true]) (by simp [results, Try.results82, d2, go_sem]) rfl (RetEO.some_ Hf.out (Own.out.low (by omega)) Hl2.out.symm (F4.out.1.done _))

end Go.Proofs.Ytkmblobfamhoiaa
