/- Contracts of the program's functions on engines: turns. -/
import Derived.Test.YtcalheieakppmaaEngA
namespace Go.Proofs.Ytcalheieakppmaa
open Go.RowKit
set_option maxRecDepth 4000

def hsz (cs : List ByteArray) : Nat := (cs.headD ByteArray.empty).size
def cvs (cs : List ByteArray) : List Int := cs.map cval

theorem engV_vals {cs : List ByteArray} (h : engV cs = true) : cs = eng (hsz cs) (cvs cs) ∧ 1 ≤ hsz cs ∧ hsz cs ≤ 12 ∧ 1 ≤ (cvs cs).length ∧ (cvs cs).length ≤ 7 := by
  obtain ⟨W, vs, he, h1, h2, h3, h4, h5⟩ := engV_some h
  have e1 : hsz cs = W := by
    rw [he]
    cases vs with
    | nil => simp at h3
    | cons v r => simp [hsz, eng, showC_size]
  have e2 : cvs cs = vs := by
    rw [he, cvs, eng, List.map_map]
    have : vs.map (cval ∘ showC W) = vs.map id := List.map_congr_left fun v hv => by
      have := h5 v hv
      simp only [Function.comp, cval_showC, id]
      exact Int.emod_eq_of_lt this.1 this.2
    rw [this, List.map_id]
  rw [e1, e2]
  exact ⟨he, h1, h2, h3, h4⟩

theorem hsz_eng {W : Nat} {vs : List Int} (h : 1 ≤ vs.length) : hsz (eng W vs) = W := by
  cases vs with
  | nil => simp at h
  | cons v r => simp [hsz, eng, showC_size]

/-- The engine whose numbers are turned by f, if it is one. -/
def turnF (f : List Int → List Int) (cs : List ByteArray) : Option (List ByteArray) := if engV cs then some (eng (hsz cs) (f (cvs cs))) else none

theorem turnF_some {f : List Int → List Int} {cs : List ByteArray} (h : engV cs = true) : turnF f cs = some (eng (hsz cs) (f (cvs cs))) := by rw [turnF, if_pos h]
theorem turnF_none {f : List Int → List Int} {cs : List ByteArray} (h : engV cs = false) : turnF f cs = none := by rw [turnF, if_neg (by rw [h]; simp)]

/-- The result of a function that returns an engine or none. -/
def RetEO (E : TypeId) (B : Nat) (w : World) (r : Option (List ByteArray)) (e : Ending) (w' : World) : Prop := RetEB E B w (r.getD []) r.isSome e w'

theorem RetEO.none_ {E : TypeId} {B : Nat} {w w' : World} {r : Option (List ByteArray)} (h : r = none) (hb : Below B w w') : RetEO E B w r (.returned (.tuple #[.agg #[.slice none 0 0], .bool false])) w' := by
  subst h; exact RetEB.none_ rfl rfl hb
theorem RetEO.some_ {E : TypeId} {B n c : Nat} {A : Option Addr} {w w' : World} {r : Option (List ByteArray)} {zs : List ByteArray} (h : r = some zs) (ho : OwnS E B w' A c zs) (hn : n = zs.length) (hb : Below B w w') :
    RetEO E B w r (.returned (.tuple #[.agg #[.slice A n c], .bool true])) w' := by
  subst h; exact RetEB.own ho hn rfl hb

set_option maxHeartbeats 800000 in
theorem TurnWhole_any (A : Option Addr) (c : Nat) (cs : List ByteArray) (w : World) (h : SS w A cs) (hs : Short cs) :
    Calls Try.prog 60 #[.agg #[.slice A cs.length c]] w fun e w' => RetEO 9 w.heap.size w (turnF (manyV · 1) cs) e w' := by
  have Hh := hd h
  have Hs := hd hs
  have F0 := hd (Fr.start w (.slice A cs.length c) (.slice none 0 0) 31 31)
  clear h hs
  cases hv : engV cs
  · have Hf : Hid (turnF (manyV · 1) cs = none) := hd (turnF_none hv)
    have Hv := hd hv
    clear hv
    go_enter Try.func60, Try.ntmps60
    go_wp2_with fail
    refine (EngineValid_b _ A c cs false _ rfl ((Hh.out.alloc _).alloc _) Hs.out Hv.out).mono ?_
    rintro e w1 ⟨rfl, b1⟩
    have F1 := hd (F0.out.below b1)
    obtain ⟨⟨c1, f1⟩, ⟨c2, f2⟩, -, -⟩ := F1.out
    clear b1
    go_wp2
    exact bodyPost_ret (v := .tuple #[.agg #[.slice none 0 0], .bool false]) (by simp [results, Try.results60, c2, go_sem]) rfl (RetEO.none_ Hf.out (F1.out.done _))
  · have Hf := hd (turnF_some (f := (manyV · 1)) hv)
    obtain ⟨he, hW1, hW12, hn1, hn7⟩ := engV_vals hv
    have Hl : Hid ((cvs cs).length = cs.length) := hd (by simp [cvs])
    obtain ⟨W, hW⟩ : ∃ W, W = hsz cs := ⟨_, rfl⟩
    obtain ⟨vs, hvs⟩ : ∃ vs, vs = cvs cs := ⟨_, rfl⟩
    rw [← hW, ← hvs] at he Hf
    rw [← hW] at hW1 hW12
    rw [← hvs] at hn1 hn7 Hl
    have He := hd he
    have Hv := hd hv
    rw [Hl.out] at hn1 hn7
    have Hml : Hid ((eng W (manyV vs 1)).length = cs.length) := hd (by rw [eng_length, manyV_length, Hl.out])
    clear he hv hW hvs
    go_enter Try.func60, Try.ntmps60
    go_wp2_with fail
    refine (EngineValid_b _ A c cs true _ rfl ((Hh.out.alloc _).alloc _) Hs.out Hv.out).mono ?_
    rintro e w1 ⟨rfl, b1⟩
    have F1 := hd (F0.out.below b1)
    have S1 : Hid (SS w1 A (eng W vs)) := hd (by rw [← He.out]; exact (Hh.out.below F1.out.2.2.2))
    obtain ⟨⟨c1, f1⟩, ⟨c2, f2⟩, -, -⟩ := F1.out
    clear b1
    go_wp2_with fail
    refine (turnedOnce_any W vs A c cs.length _ S1.out hW1 hW12 Hl.out hn1 hn7).mono ?_
    rintro e w2 ⟨A2, c3, rfl, own2, b2⟩
    rw [Hml.out]
    have F2 := hd (F1.out.below b2)
    have Own := hd (own2.keep_lo (grown_set w2 ⟨w.heap.size + 1, 0, none⟩ (.slice A2 cs.length c3)) (fun r hr => by simp at hr; have := F1.out.2.2.1; omega))
    have hszz : w.heap.size ≤ w1.heap.size := F1.out.2.2.2.size
    clear c1 f1 c2 f2
    obtain ⟨⟨c1, f1⟩, ⟨c2, f2⟩, -, -⟩ := F2.out
    clear b2 own2
    go_wp2
    exact bodyPost_ret (v := .tuple #[.agg #[.slice A2 cs.length c3], .bool true]) (by simp [results, Try.results60, c2, go_sem]) rfl (RetEO.some_ Hf.out (Own.out.low hszz) Hml.out.symm (F2.out.done _))

set_option maxHeartbeats 800000 in
theorem TurnBack_any (A : Option Addr) (c : Nat) (cs : List ByteArray) (w : World) (h : SS w A cs) (hs : Short cs) :
    Calls Try.prog 58 #[.agg #[.slice A cs.length c]] w fun e w' => RetEO 9 w.heap.size w (turnF (manyV · (-1)) cs) e w' := by
  have Hh := hd h
  have Hs := hd hs
  have F0 := hd (Fr.start w (.slice A cs.length c) (.slice none 0 0) 31 31)
  clear h hs
  cases hv : engV cs
  · have Hf : Hid (turnF (manyV · (-1)) cs = none) := hd (turnF_none hv)
    have Hv := hd hv
    clear hv
    go_enter Try.func58, Try.ntmps58
    go_wp2_with fail
    refine (EngineValid_b _ A c cs false _ rfl ((Hh.out.alloc _).alloc _) Hs.out Hv.out).mono ?_
    rintro e w1 ⟨rfl, b1⟩
    have F1 := hd (F0.out.below b1)
    obtain ⟨⟨c1, f1⟩, ⟨c2, f2⟩, -, -⟩ := F1.out
    clear b1
    go_wp2
    exact bodyPost_ret (v := .tuple #[.agg #[.slice none 0 0], .bool false]) (by simp [results, Try.results58, c2, go_sem]) rfl (RetEO.none_ Hf.out (F1.out.done _))
  · have Hf := hd (turnF_some (f := (manyV · (-1))) hv)
    obtain ⟨he, hW1, hW12, hn1, hn7⟩ := engV_vals hv
    have Hl : Hid ((cvs cs).length = cs.length) := hd (by simp [cvs])
    obtain ⟨W, hW⟩ : ∃ W, W = hsz cs := ⟨_, rfl⟩
    obtain ⟨vs, hvs⟩ : ∃ vs, vs = cvs cs := ⟨_, rfl⟩
    rw [← hW, ← hvs] at he Hf
    rw [← hW] at hW1 hW12
    rw [← hvs] at hn1 hn7 Hl
    have He := hd he
    have Hv := hd hv
    rw [Hl.out] at hn1 hn7
    have Hml : Hid ((eng W (manyV vs (-1))).length = cs.length) := hd (by rw [eng_length, manyV_length, Hl.out])
    clear he hv hW hvs
    go_enter Try.func58, Try.ntmps58
    go_wp2_with fail
    refine (EngineValid_b _ A c cs true _ rfl ((Hh.out.alloc _).alloc _) Hs.out Hv.out).mono ?_
    rintro e w1 ⟨rfl, b1⟩
    have F1 := hd (F0.out.below b1)
    have S1 : Hid (SS w1 A (eng W vs)) := hd (by rw [← He.out]; exact (Hh.out.below F1.out.2.2.2))
    obtain ⟨⟨c1, f1⟩, ⟨c2, f2⟩, -, -⟩ := F1.out
    clear b1
    go_wp2_with fail
    refine (turnedBack_any W vs A c cs.length _ S1.out hW1 hW12 Hl.out hn1 hn7).mono ?_
    rintro e w2 ⟨A2, c3, rfl, own2, b2⟩
    rw [Hml.out]
    have F2 := hd (F1.out.below b2)
    have Own := hd (own2.keep_lo (grown_set w2 ⟨w.heap.size + 1, 0, none⟩ (.slice A2 cs.length c3)) (fun r hr => by simp at hr; have := F1.out.2.2.1; omega))
    have hszz : w.heap.size ≤ w1.heap.size := F1.out.2.2.2.size
    clear c1 f1 c2 f2
    obtain ⟨⟨c1, f1⟩, ⟨c2, f2⟩, -, -⟩ := F2.out
    clear b2 own2
    go_wp2
    exact bodyPost_ret (v := .tuple #[.agg #[.slice A2 cs.length c3], .bool true]) (by simp [results, Try.results58, c2, go_sem]) rfl (RetEO.some_ Hf.out (Own.out.low hszz) Hml.out.symm (F2.out.done _))

set_option maxHeartbeats 800000 in
theorem TurnFirst_any (A : Option Addr) (c : Nat) (cs : List ByteArray) (w : World) (h : SS w A cs) (hs : Short cs) :
    Calls Try.prog 51 #[.agg #[.slice A cs.length c]] w fun e w' => RetEO 9 w.heap.size w (turnF (halfV 0) cs) e w' := by
  have Hh := hd h
  have Hs := hd hs
  have F0 := hd (Fr.start w (.slice A cs.length c) (.slice none 0 0) 31 31)
  clear h hs
  cases hv : engV cs
  · have Hf : Hid (turnF (halfV 0) cs = none) := hd (turnF_none hv)
    have Hv := hd hv
    clear hv
    go_enter Try.func51, Try.ntmps51
    go_wp2_with fail
    refine (EngineValid_b _ A c cs false _ rfl ((Hh.out.alloc _).alloc _) Hs.out Hv.out).mono ?_
    rintro e w1 ⟨rfl, b1⟩
    have F1 := hd (F0.out.below b1)
    obtain ⟨⟨c1, f1⟩, ⟨c2, f2⟩, -, -⟩ := F1.out
    clear b1
    go_wp2
    exact bodyPost_ret (v := .tuple #[.agg #[.slice none 0 0], .bool false]) (by simp [results, Try.results51, c2, go_sem]) rfl (RetEO.none_ Hf.out (F1.out.done _))
  · have Hf := hd (turnF_some (f := (halfV 0)) hv)
    obtain ⟨he, hW1, hW12, hn1, hn7⟩ := engV_vals hv
    have Hl : Hid ((cvs cs).length = cs.length) := hd (by simp [cvs])
    obtain ⟨W, hW⟩ : ∃ W, W = hsz cs := ⟨_, rfl⟩
    obtain ⟨vs, hvs⟩ : ∃ vs, vs = cvs cs := ⟨_, rfl⟩
    rw [← hW, ← hvs] at he Hf
    rw [← hW] at hW1 hW12
    rw [← hvs] at hn1 hn7 Hl
    have He := hd he
    have Hv := hd hv
    rw [Hl.out] at hn1 hn7
    have Hml : Hid ((eng W (halfV 0 vs)).length = cs.length) := hd (by rw [eng_length, halfV_length, Hl.out])
    clear he hv hW hvs
    go_enter Try.func51, Try.ntmps51
    go_wp2_with fail
    refine (EngineValid_b _ A c cs true _ rfl ((Hh.out.alloc _).alloc _) Hs.out Hv.out).mono ?_
    rintro e w1 ⟨rfl, b1⟩
    have F1 := hd (F0.out.below b1)
    have S1 : Hid (SS w1 A (eng W vs)) := hd (by rw [← He.out]; exact (Hh.out.below F1.out.2.2.2))
    obtain ⟨⟨c1, f1⟩, ⟨c2, f2⟩, -, -⟩ := F1.out
    clear b1
    go_wp2_with fail
    refine (turnedHalf_any W 0 vs A c cs.length _ S1.out hW1 hW12 Hl.out hn1 hn7 (by decide)).mono ?_
    rintro e w2 ⟨A2, c3, rfl, own2, b2⟩
    rw [Hml.out]
    have F2 := hd (F1.out.below b2)
    have Own := hd (own2.keep_lo (grown_set w2 ⟨w.heap.size + 1, 0, none⟩ (.slice A2 cs.length c3)) (fun r hr => by simp at hr; have := F1.out.2.2.1; omega))
    have hszz : w.heap.size ≤ w1.heap.size := F1.out.2.2.2.size
    clear c1 f1 c2 f2
    obtain ⟨⟨c1, f1⟩, ⟨c2, f2⟩, -, -⟩ := F2.out
    clear b2 own2
    go_wp2
    exact bodyPost_ret (v := .tuple #[.agg #[.slice A2 cs.length c3], .bool true]) (by simp [results, Try.results51, c2, go_sem]) rfl (RetEO.some_ Hf.out (Own.out.low hszz) Hml.out.symm (F2.out.done _))

set_option maxHeartbeats 800000 in
theorem TurnSecond_any (A : Option Addr) (c : Nat) (cs : List ByteArray) (w : World) (h : SS w A cs) (hs : Short cs) :
    Calls Try.prog 52 #[.agg #[.slice A cs.length c]] w fun e w' => RetEO 9 w.heap.size w (turnF (halfV 1) cs) e w' := by
  have Hh := hd h
  have Hs := hd hs
  have F0 := hd (Fr.start w (.slice A cs.length c) (.slice none 0 0) 31 31)
  clear h hs
  cases hv : engV cs
  · have Hf : Hid (turnF (halfV 1) cs = none) := hd (turnF_none hv)
    have Hv := hd hv
    clear hv
    go_enter Try.func52, Try.ntmps52
    go_wp2_with fail
    refine (EngineValid_b _ A c cs false _ rfl ((Hh.out.alloc _).alloc _) Hs.out Hv.out).mono ?_
    rintro e w1 ⟨rfl, b1⟩
    have F1 := hd (F0.out.below b1)
    obtain ⟨⟨c1, f1⟩, ⟨c2, f2⟩, -, -⟩ := F1.out
    clear b1
    go_wp2
    exact bodyPost_ret (v := .tuple #[.agg #[.slice none 0 0], .bool false]) (by simp [results, Try.results52, c2, go_sem]) rfl (RetEO.none_ Hf.out (F1.out.done _))
  · have Hf := hd (turnF_some (f := (halfV 1)) hv)
    obtain ⟨he, hW1, hW12, hn1, hn7⟩ := engV_vals hv
    have Hl : Hid ((cvs cs).length = cs.length) := hd (by simp [cvs])
    obtain ⟨W, hW⟩ : ∃ W, W = hsz cs := ⟨_, rfl⟩
    obtain ⟨vs, hvs⟩ : ∃ vs, vs = cvs cs := ⟨_, rfl⟩
    rw [← hW, ← hvs] at he Hf
    rw [← hW] at hW1 hW12
    rw [← hvs] at hn1 hn7 Hl
    have He := hd he
    have Hv := hd hv
    rw [Hl.out] at hn1 hn7
    have Hml : Hid ((eng W (halfV 1 vs)).length = cs.length) := hd (by rw [eng_length, halfV_length, Hl.out])
    clear he hv hW hvs
    go_enter Try.func52, Try.ntmps52
    go_wp2_with fail
    refine (EngineValid_b _ A c cs true _ rfl ((Hh.out.alloc _).alloc _) Hs.out Hv.out).mono ?_
    rintro e w1 ⟨rfl, b1⟩
    have F1 := hd (F0.out.below b1)
    have S1 : Hid (SS w1 A (eng W vs)) := hd (by rw [← He.out]; exact (Hh.out.below F1.out.2.2.2))
    obtain ⟨⟨c1, f1⟩, ⟨c2, f2⟩, -, -⟩ := F1.out
    clear b1
    go_wp2_with fail
    refine (turnedHalf_any W 1 vs A c cs.length _ S1.out hW1 hW12 Hl.out hn1 hn7 (by decide)).mono ?_
    rintro e w2 ⟨A2, c3, rfl, own2, b2⟩
    rw [Hml.out]
    have F2 := hd (F1.out.below b2)
    have Own := hd (own2.keep_lo (grown_set w2 ⟨w.heap.size + 1, 0, none⟩ (.slice A2 cs.length c3)) (fun r hr => by simp at hr; have := F1.out.2.2.1; omega))
    have hszz : w.heap.size ≤ w1.heap.size := F1.out.2.2.2.size
    clear c1 f1 c2 f2
    obtain ⟨⟨c1, f1⟩, ⟨c2, f2⟩, -, -⟩ := F2.out
    clear b2 own2
    go_wp2
    exact bodyPost_ret (v := .tuple #[.agg #[.slice A2 cs.length c3], .bool true]) (by simp [results, Try.results52, c2, go_sem]) rfl (RetEO.some_ Hf.out (Own.out.low hszz) Hml.out.symm (F2.out.done _))

end Go.Proofs.Ytcalheieakppmaa
