/- The contracts of both sides' RunEngine and RunHalves, for whatever comes in. -/
import Derived.Test.YtkmblobfamhoiaaGrJ
import Derived.Test.YtkmblobfamhoiaaSpeU
import Derived.Test.YtkmblobfamhoiaaGrG
import Derived.Test.YtkmblobfamhoiaaLwP
namespace Go.Proofs.Ytkmblobfamhoiaa
open Go.RowKit
set_option maxRecDepth 4000

theorem OW.keep_lo {E : TypeId} {B g n : Nat} {w w' : World} {xs : List Int} {row : Option Nat} (h : OW E B w g n xs) (hg : w.grownBy w' row) (hr : ∀ r, row = some r → r < B) : OW E B w' g n xs := by
  refine ⟨h.1, h.2.1, h.2.2.kept hg (.inr ?_)⟩
  intro e
  have h1 := h.lt.1
  simp only [Value.ownBlock] at e
  have := hr g (by simpa using e.symm)
  omega

theorem SG.grownO {α : Type} {f : α → Value} {w w' : World} {A : Option Addr} {xs : List α} {row : Option Nat} (h : SG f w A xs) (hg : w.grownBy w' row) (ho : ∀ a, A = some a → row ≠ some a.block) : SG f w' A xs := by
  refine ⟨h.1, fun k v hk => ?_⟩
  obtain ⟨b, off, e, hb, hc⟩ := h.2 k v hk
  have hbl : w'.heap[b]? = w.heap[b]? := hg.block b hb (by have := ho _ e; exact fun e2 => this e2.symm)
  exact ⟨b, off, e, Nat.lt_of_lt_of_le hb hg.size, by rw [World.cell?_of_block (w := w) hbl]; exact hc⟩

theorem turn_engF {f : List Int → List Int} (hs : ∀ W a b, Same W a b → Same W (f a) (f b)) {W : Nat} {vs : List Int} (h1 : 1 ≤ W) (h12 : W ≤ 12) (hn1 : 1 ≤ vs.length) (hn7 : vs.length ≤ 7) :
    turnF f (eng W vs) = some (eng W (f vs)) := by
  rw [turnF_some (engV_eng h1 h12 hn1 hn7), hsz_eng hn1]
  congr 1
  exact eng_congr (hs W _ _ (same_cvs W vs))

/-- A function that turns an engine by f, of the program's make. -/
def TurnsC (fid : Nat) (f : List Int → List Int) : Prop := ∀ (W : Nat) (A : Option Addr) (c n : Nat) (vs : List Int) (w : World), 1 ≤ W → W ≤ 12 → vs.length = n → 1 ≤ n → n ≤ 7 → SS w A (eng W vs) →
  Calls Try.prog fid #[.agg #[.slice A n c]] w fun e w' => ∃ A' c', e = .returned (.tuple #[.agg #[.slice A' n c'], .bool true]) ∧ OwnS 9 w.heap.size w' A' c' (eng W (f vs)) ∧ Below w.heap.size w w'
/-- The same, of the reference's make. -/
def TurnsS (fid : Nat) (f : List Int → List Int) : Prop := ∀ (W : Nat) (A : Option Addr) (c n : Nat) (vs : List Int) (w : World), 1 ≤ W → W ≤ 12 → vs.length = n → 1 ≤ n → n ≤ 7 → SS w A (eng W vs) →
  Calls Try.prog fid #[.agg #[.slice A n c]] w fun e w' => ∃ A' c', e = .returned (.agg #[.slice A' n c']) ∧ OwnS 9 w.heap.size w' A' c' (eng W (f vs)) ∧ Below w.heap.size w w'

theorem turnsC_whole : TurnsC 62 (manyV · 1) := by
  intro W A c n vs w h1 h12 hn hn1 hn7 h
  subst hn
  have h2 := TurnWhole_any A c (eng W vs) w h (short_eng h12 vs)
  rw [eng_length] at h2
  refine h2.mono ?_
  rintro e w' ⟨A', c', rfl, ho, hb⟩
  rw [turn_engF (f := (manyV · 1)) (fun _ _ _ h => h.many 1) h1 h12 hn1 hn7] at ho ⊢
  exact ⟨A', c', by simp [eng_length, manyV_length], ho, hb⟩
theorem turnsC_halves : TurnsC 82 halvesV := by
  intro W A c n vs w h1 h12 hn hn1 hn7 h
  subst hn
  have h2 := TurnHalves_any A c (eng W vs) w h (short_eng h12 vs)
  rw [eng_length] at h2
  refine h2.mono ?_
  rintro e w' ⟨A', c', rfl, ho, hb⟩
  rw [turn_engF (f := halvesV) (fun _ _ _ h => (h.half 0).half 1) h1 h12 hn1 hn7] at ho ⊢
  exact ⟨A', c', by simp [eng_length, halvesV_length], ho, hb⟩
theorem turnsS_whole : TurnsS 76 (manyV · 1) := by
  intro W A c n vs w h1 h12 hn hn1 hn7 h
  refine (l3Turn_any W vs A c n w h h1 h12 hn hn1 hn7).mono ?_
  rintro e w' ⟨A', c', rfl, ho, hb⟩
  subst hn
  exact ⟨A', c', by simp [eng_length, manyV_length], ho, hb⟩
theorem turnsS_halves : TurnsS 81 halvesV := by
  intro W A c n vs w h1 h12 hn hn1 hn7 h
  refine (l3Halves_any W vs A c n w h h1 h12 hn hn1 hn7).mono ?_
  rintro e w' ⟨A', c', rfl, ho, hb⟩
  subst hn
  exact ⟨A', c', by simp [eng_length, halvesV_length], ho, hb⟩

/-- What the loop of resultsOf has done. -/
def RunR (w w1 : World) (n K W : Nat) (f : List Int → List Int) (vs us : List Int) (i : Value) (wr : World) : Prop :=
  ∃ (k : Nat) (xs : List Int) (A : Option Addr) (c : Nat), k ≤ K ∧ i = .int .i64 k ∧ xs.take k = us.take k ∧ OW 3 w1.heap.size wr w1.heap.size K xs ∧ Cl wr w.heap.size (.slice A n c) ∧ SS wr A (eng W (iterF f k vs)) ∧ Off A w.heap.size ∧ Off A w1.heap.size ∧ Below w.heap.size w wr

theorem off_low {w : World} {A : Option Addr} {cs : List ByteArray} (h : SS w A cs) (hn : 0 < cs.length) {g : Nat} (hg : w.heap.size ≤ g) : Off A g := by
  obtain ⟨b, off, rfl, hb⟩ := h.nonempty hn
  intro a ha
  injection ha with ha
  subst ha
  show b ≠ g
  omega

set_option maxHeartbeats 3200000 in
theorem resultsOfW_any (n : Nat) (A : Option Addr) (c : Nat) (cs : List ByteArray) (N : Int) (w : World) (hn : cs.length = n) (h : SS w A cs) (hs : Short cs) :
    Calls Try.prog 78 #[.agg #[.slice A n c], .int .i64 N, .func (.func 62) #[] #[]] w fun e w' => RetO 3 w.heap.size w (runF (manyV · 1) N cs) e w' := by
  obtain ⟨i0, hi, hz0, hz1, hz2⟩ := info_parts infoI
  have Hh := hd h
  have Hs := hd hs
  have Hn := hd hn
  have Box := hd (Cl.new w (.slice A n c) 36)
  have Bel := hd ((Below.refl w.heap.size w).alloc (Nat.le_refl _) (.cells #[.slice A n c] 36))
  clear h hs hn
  cases hv : engV cs
  · have Hf : Hid (runF (manyV · 1) N cs = none) := hd (runF_none (by rw [hv]; rfl))
    have Hv := hd hv
    clear hv
    go_enter Try.func78, Try.ntmps78
    go_wp2_with fail
    refine (EngineValid_b _ A c cs false _ Hn.out (Hh.out.alloc _) Hs.out Hv.out).mono ?_
    rintro e w1 ⟨rfl, b1⟩
    have Bel2 := hd (Bel.out.trans (b1.mono (by simp)))
    clear b1
    go_wp2
    go_ret2
    exact RetO.none_ Hf.out Bel2.out
  · have Hv := hd hv
    by_cases hN0 : N < 0
    · have Hf : Hid (runF (manyV · 1) N cs = none) := hd (runF_none (by simp; omega))
      clear hv
      go_enter Try.func78, Try.ntmps78
      go_wp2_with fail
      refine (EngineValid_b _ A c cs true _ Hn.out (Hh.out.alloc _) Hs.out Hv.out).mono ?_
      rintro e w1 ⟨rfl, b1⟩
      have Bel2 := hd (Bel.out.trans (b1.mono (by simp)))
      clear b1
      go_wp2
      go_ret2
      exact RetO.none_ Hf.out Bel2.out
    by_cases hN1 : 60 < N
    · have Hf : Hid (runF (manyV · 1) N cs = none) := hd (runF_none (by simp; omega))
      clear hv
      go_enter Try.func78, Try.ntmps78
      go_wp2_with fail
      refine (EngineValid_b _ A c cs true _ Hn.out (Hh.out.alloc _) Hs.out Hv.out).mono ?_
      rintro e w1 ⟨rfl, b1⟩
      have Bel2 := hd (Bel.out.trans (b1.mono (by simp)))
      clear b1
      go_wp2
      go_ret2
      exact RetO.none_ Hf.out Bel2.out
    obtain ⟨K, rfl⟩ := Int.eq_ofNat_of_zero_le (show 0 ≤ N by omega)
    have hK : K ≤ 60 := by omega
    have Hf := hd (runF_some (f := (manyV · 1)) hv (show (0 : Int) ≤ K by omega) (by omega))
    obtain ⟨he, hW1, hW12, hn1, hn7⟩ := engV_vals hv
    obtain ⟨W, hW⟩ : ∃ W, W = hsz cs := ⟨_, rfl⟩
    obtain ⟨vs, hvs⟩ : ∃ vs, vs = cvs cs := ⟨_, rfl⟩
    rw [← hW, ← hvs] at he Hf
    rw [← hW] at hW1 hW12
    rw [← hvs] at hn1 hn7
    have Hl : Hid (vs.length = n) := hd (by rw [hvs, ← Hn.out]; simp [cvs])
    rw [Hl.out] at hn1 hn7
    rw [Int.toNat_natCast] at Hf
    obtain ⟨us, Hus⟩ : ∃ us, Hid (tab K (fun i => sgn W ((iterF (manyV · 1) i vs).getD 0 0)) = us) := ⟨_, hd rfl⟩
    have Hul : Hid (us.length = K) := hd (by rw [← Hus.out, tab_length])
    have He := hd he
    rw [Hus.out] at Hf
    clear he hv hW hvs hN0 hN1
    go_enter Try.func78, Try.ntmps78
    go_wp2_with fail
    refine (EngineValid_b _ A c cs true _ Hn.out (Hh.out.alloc _) Hs.out Hv.out).mono ?_
    rintro e w1 ⟨rfl, b1⟩
    have Bel2 := hd (Bel.out.trans (b1.mono (by simp)))
    have Box := hd (Box.out.below b1)
    have S1 : Hid (SS w1 A (eng W vs)) := hd (by rw [← He.out]; exact Hh.out.below Bel2.out)
    have Of0 := hd (off_low Hh.out (by rw [Hn.out]; omega) (Nat.le_refl _))
    have Of1 := hd (off_low (g := w1.heap.size) Hh.out (by rw [Hn.out]; omega) Bel2.out.size)
    obtain ⟨c1, f1, -⟩ := Box.out
    have hsz : w.heap.size < w1.heap.size := Box.out.2.2
    clear b1
    go_wp2_with (at_make; refine wpList_make_full _ rfl _ _ 23 rfl w1.heap.size 3 i0 (.int .i64 0) 1 Try.underlying23 hi hz0 hz1 .i64 .i64 _ _ K rfl rfl rfl rfl (by rw [hz2]; omega) (by unfold maxLen; omega) (Nat.le_refl _) ?_; intro w2 hown hgrow; have Hb2 := hd ((Below.refl w1.heap.size w1).grown hgrow (Nat.le_refl _) (by simp)); have Box2 := hd (Box.out.below Hb2.out); have S2 := hd (S1.out.below Hb2.out); have How := hd (OW.made hown (by omega)); clear c1 f1 hown hgrow; obtain ⟨c1, f1, -⟩ := Box2.out)
    have Bel3 := hd (Bel2.out.trans (Hb2.out.mono (Nat.le_of_lt hsz)))
    go_loopw [25] (fun i wr => RunR w w1 n K W (manyV · 1) vs us i wr) (fun i _ => K - (intOf i).toNat)
    case atStart => exact ⟨0, List.replicate K 0, A, c, by omega, rfl, rfl, How.out, Box2.out, S2.out, Of0.out, Of1.out, Bel3.out⟩
    case round =>
      clear How Bel3 c1 f1 Hb2 Box2 S2 Of0 Of1
      obtain ⟨k, xs, A3, c3, hk, rfl, hxt, how, hbox, hss, ho0, ho1, hbel⟩ := hrel
      have Hxt := hd hxt
      have How := hd how
      have Bx := hd hbox
      have SS3 := hd hss
      have O0 := hd ho0
      have O1 := hd ho1
      have Bl := hd hbel
      clear hxt how hbox hss ho0 ho1 hbel
      by_cases hlt : k < K
      · obtain ⟨vk, hvk⟩ : ∃ vk, vk = iterF (manyV · 1) k vs := ⟨_, rfl⟩
        have Hvl : Hid (vk.length = n) := hd (by rw [hvk, iterF_length (fun _ => manyV_length _ _), Hl.out])
        have Hnx : Hid ((manyV · 1) vk = iterF (manyV · 1) (k + 1) vs) := hd (by rw [hvk, iterF_succ])
        obtain ⟨v, Hv_⟩ : ∃ v, Hid (vk[0]? = some v) := ⟨vk[0]'(by rw [Hvl.out]; omega), hd (List.getElem?_eq_getElem _)⟩
        have Hux : Hid (us[k]? = some (sgn W v)) := hd (by rw [← Hus.out, tab_at _ hlt, ← hvk, getD_at Hv_.out])
        rw [← hvk] at SS3
        obtain ⟨b, off, hA3, hb3⟩ := SS3.out.nonempty (by rw [eng_length, Hvl.out]; omega)
        have hc1 := (show SS wr (some ⟨b, off, none⟩) (eng W vk) by rw [← hA3]; exact SS3.out).cellK (eng_at Hv_.out)
        have Bxu := hd Bx.out
        have SSu := hd SS3.out
        have O0u := hd O0.out
        have O1u := hd O1.out
        clear hvk Bx SS3 O0 O1
        subst hA3
        have Bx := hd Bxu.out
        have SS3 := hd SSu.out
        have O0 := hd O0u.out
        have O1 := hd O1u.out
        clear Bxu SSu O0u O1u
        obtain ⟨hc1, -⟩ := hc1
        rw [Nat.add_zero] at hc1
        obtain ⟨c1, f1, -⟩ := Bx.out
        obtain ⟨o, ho, hco⟩ := How.out.cell hlt
        have hfo := How.out.frozen k
        have How2 := hd (How.out.set k (sgn W v))
        have Bx2 := hd (Bx.out.other (grown_set wr ⟨w1.heap.size, k, none⟩ (.int .i64 (sgn W v))) (show w1.heap.size ≠ w.heap.size by omega))
        have SS4 := hd (SS3.out.grown (grown_set wr ⟨w1.heap.size, k, none⟩ (.int .i64 (sgn W v))) O1.out)
        have Bl2 := hd (Bl.out.setCell (p := ⟨w1.heap.size, k, none⟩) (show w.heap.size ≤ w1.heap.size by omega) (.int .i64 (sgn W v)))
        have hn0 : (0 : Int) < n := by omega
        clear ho
        obtain ⟨d1, d2, -⟩ := Bx2.out
        go_wp2_with (go_at_call 108; refine (signed_c W v _ hW1 hW12).mono ?_; rintro e w' ⟨rfl, rfl⟩)
        clear hc1 hco hfo d1 d2
        refine (turnsC_whole W _ c3 n vk _ hW1 hW12 Hvl.out hn1 hn7 SS4.out).mono ?_
        rintro e w9 ⟨A9, c9, rfl, own9, b9⟩
        clear c1 f1
        have h1s : w1.heap.size < (wr.setCell ⟨w1.heap.size, k, none⟩ (.int .i64 (sgn W v))).heap.size := How2.out.lt.2
        have Bx9 := hd (Bx2.out.below b9)
        have How9 := hd (How2.out.below b9)
        have Bl9 := hd (Bl2.out.trans (b9.mono Bl2.out.size))
        have O09 := hd (own9.off (g := w.heap.size) (by omega))
        have O19 := hd (own9.off (g := w1.heap.size) h1s)
        have gs := grown_set w9 ⟨w.heap.size, 0, none⟩ (.slice A9 n c9)
        have SSn := hd (own9.keep_lo gs (fun r hr => by simp at hr; omega)).sg
        have Hown := hd (How9.out.keep_lo gs (fun r hr => by simp at hr; omega))
        have Bxn := hd (Bx9.out.put (.slice A9 n c9))
        have Bln := hd (Bl9.out.setCell (p := ⟨w.heap.size, 0, none⟩) (Nat.le_refl _) (.slice A9 n c9))
        have SSn := hd (show SS _ A9 (eng W (iterF (manyV · 1) (k + 1) vs)) by rw [← Hnx.out]; exact SSn.out)
        have Hxl := hd How.out.1
        clear own9 b9 gs h1s
        obtain ⟨c1, f1, -⟩ := Bx9.out
        go_wp2
        go_roundw
        case rel => exact ⟨k + 1, xs.set k (sgn W v), A9, c9, by omega, by go_num, take_set_succ (by have := Hxl.out; omega) Hxt.out Hux.out, Hown.out, Bxn.out, SSn.out, O09.out, O19.out, Bln.out⟩
        case measure => simp [intOf]; omega
      · obtain rfl : k = K := by omega
        have hxs : xs = us := by
          have h1 := Hxt.out
          rw [List.take_of_length_le (by have := How.out.1; omega), List.take_of_length_le (by rw [Hul.out]; omega)] at h1
          exact h1
        subst hxs
        have Ho := hd How.out.own
        go_wp2
        go_ret2
        rw [Hf.out]
        refine ⟨some ⟨w1.heap.size, 0, none⟩, k, ?_, Ho.out.low (by omega), Bl.out⟩
        rw [Option.getD_some, Hul.out]
        rfl

set_option maxHeartbeats 3200000 in
theorem resultsOfH_any (n : Nat) (A : Option Addr) (c : Nat) (cs : List ByteArray) (N : Int) (w : World) (hn : cs.length = n) (h : SS w A cs) (hs : Short cs) :
    Calls Try.prog 78 #[.agg #[.slice A n c], .int .i64 N, .func (.func 82) #[] #[]] w fun e w' => RetO 3 w.heap.size w (runF halvesV N cs) e w' := by
  obtain ⟨i0, hi, hz0, hz1, hz2⟩ := info_parts infoI
  have Hh := hd h
  have Hs := hd hs
  have Hn := hd hn
  have Box := hd (Cl.new w (.slice A n c) 36)
  have Bel := hd ((Below.refl w.heap.size w).alloc (Nat.le_refl _) (.cells #[.slice A n c] 36))
  clear h hs hn
  cases hv : engV cs
  · have Hf : Hid (runF halvesV N cs = none) := hd (runF_none (by rw [hv]; rfl))
    have Hv := hd hv
    clear hv
    go_enter Try.func78, Try.ntmps78
    go_wp2_with fail
    refine (EngineValid_b _ A c cs false _ Hn.out (Hh.out.alloc _) Hs.out Hv.out).mono ?_
    rintro e w1 ⟨rfl, b1⟩
    have Bel2 := hd (Bel.out.trans (b1.mono (by simp)))
    clear b1
    go_wp2
    go_ret2
    exact RetO.none_ Hf.out Bel2.out
  · have Hv := hd hv
    by_cases hN0 : N < 0
    · have Hf : Hid (runF halvesV N cs = none) := hd (runF_none (by simp; omega))
      clear hv
      go_enter Try.func78, Try.ntmps78
      go_wp2_with fail
      refine (EngineValid_b _ A c cs true _ Hn.out (Hh.out.alloc _) Hs.out Hv.out).mono ?_
      rintro e w1 ⟨rfl, b1⟩
      have Bel2 := hd (Bel.out.trans (b1.mono (by simp)))
      clear b1
      go_wp2
      go_ret2
      exact RetO.none_ Hf.out Bel2.out
    by_cases hN1 : 60 < N
    · have Hf : Hid (runF halvesV N cs = none) := hd (runF_none (by simp; omega))
      clear hv
      go_enter Try.func78, Try.ntmps78
      go_wp2_with fail
      refine (EngineValid_b _ A c cs true _ Hn.out (Hh.out.alloc _) Hs.out Hv.out).mono ?_
      rintro e w1 ⟨rfl, b1⟩
      have Bel2 := hd (Bel.out.trans (b1.mono (by simp)))
      clear b1
      go_wp2
      go_ret2
      exact RetO.none_ Hf.out Bel2.out
    obtain ⟨K, rfl⟩ := Int.eq_ofNat_of_zero_le (show 0 ≤ N by omega)
    have hK : K ≤ 60 := by omega
    have Hf := hd (runF_some (f := halvesV) hv (show (0 : Int) ≤ K by omega) (by omega))
    obtain ⟨he, hW1, hW12, hn1, hn7⟩ := engV_vals hv
    obtain ⟨W, hW⟩ : ∃ W, W = hsz cs := ⟨_, rfl⟩
    obtain ⟨vs, hvs⟩ : ∃ vs, vs = cvs cs := ⟨_, rfl⟩
    rw [← hW, ← hvs] at he Hf
    rw [← hW] at hW1 hW12
    rw [← hvs] at hn1 hn7
    have Hl : Hid (vs.length = n) := hd (by rw [hvs, ← Hn.out]; simp [cvs])
    rw [Hl.out] at hn1 hn7
    rw [Int.toNat_natCast] at Hf
    obtain ⟨us, Hus⟩ : ∃ us, Hid (tab K (fun i => sgn W ((iterF halvesV i vs).getD 0 0)) = us) := ⟨_, hd rfl⟩
    have Hul : Hid (us.length = K) := hd (by rw [← Hus.out, tab_length])
    have He := hd he
    rw [Hus.out] at Hf
    clear he hv hW hvs hN0 hN1
    go_enter Try.func78, Try.ntmps78
    go_wp2_with fail
    refine (EngineValid_b _ A c cs true _ Hn.out (Hh.out.alloc _) Hs.out Hv.out).mono ?_
    rintro e w1 ⟨rfl, b1⟩
    have Bel2 := hd (Bel.out.trans (b1.mono (by simp)))
    have Box := hd (Box.out.below b1)
    have S1 : Hid (SS w1 A (eng W vs)) := hd (by rw [← He.out]; exact Hh.out.below Bel2.out)
    have Of0 := hd (off_low Hh.out (by rw [Hn.out]; omega) (Nat.le_refl _))
    have Of1 := hd (off_low (g := w1.heap.size) Hh.out (by rw [Hn.out]; omega) Bel2.out.size)
    obtain ⟨c1, f1, -⟩ := Box.out
    have hsz : w.heap.size < w1.heap.size := Box.out.2.2
    clear b1
    go_wp2_with (at_make; refine wpList_make_full _ rfl _ _ 23 rfl w1.heap.size 3 i0 (.int .i64 0) 1 Try.underlying23 hi hz0 hz1 .i64 .i64 _ _ K rfl rfl rfl rfl (by rw [hz2]; omega) (by unfold maxLen; omega) (Nat.le_refl _) ?_; intro w2 hown hgrow; have Hb2 := hd ((Below.refl w1.heap.size w1).grown hgrow (Nat.le_refl _) (by simp)); have Box2 := hd (Box.out.below Hb2.out); have S2 := hd (S1.out.below Hb2.out); have How := hd (OW.made hown (by omega)); clear c1 f1 hown hgrow; obtain ⟨c1, f1, -⟩ := Box2.out)
    have Bel3 := hd (Bel2.out.trans (Hb2.out.mono (Nat.le_of_lt hsz)))
    go_loopw [25] (fun i wr => RunR w w1 n K W halvesV vs us i wr) (fun i _ => K - (intOf i).toNat)
    case atStart => exact ⟨0, List.replicate K 0, A, c, by omega, rfl, rfl, How.out, Box2.out, S2.out, Of0.out, Of1.out, Bel3.out⟩
    case round =>
      clear How Bel3 c1 f1 Hb2 Box2 S2 Of0 Of1
      obtain ⟨k, xs, A3, c3, hk, rfl, hxt, how, hbox, hss, ho0, ho1, hbel⟩ := hrel
      have Hxt := hd hxt
      have How := hd how
      have Bx := hd hbox
      have SS3 := hd hss
      have O0 := hd ho0
      have O1 := hd ho1
      have Bl := hd hbel
      clear hxt how hbox hss ho0 ho1 hbel
      by_cases hlt : k < K
      · obtain ⟨vk, hvk⟩ : ∃ vk, vk = iterF halvesV k vs := ⟨_, rfl⟩
        have Hvl : Hid (vk.length = n) := hd (by rw [hvk, iterF_length halvesV_length, Hl.out])
        have Hnx : Hid (halvesV vk = iterF halvesV (k + 1) vs) := hd (by rw [hvk, iterF_succ])
        obtain ⟨v, Hv_⟩ : ∃ v, Hid (vk[0]? = some v) := ⟨vk[0]'(by rw [Hvl.out]; omega), hd (List.getElem?_eq_getElem _)⟩
        have Hux : Hid (us[k]? = some (sgn W v)) := hd (by rw [← Hus.out, tab_at _ hlt, ← hvk, getD_at Hv_.out])
        rw [← hvk] at SS3
        obtain ⟨b, off, hA3, hb3⟩ := SS3.out.nonempty (by rw [eng_length, Hvl.out]; omega)
        have hc1 := (show SS wr (some ⟨b, off, none⟩) (eng W vk) by rw [← hA3]; exact SS3.out).cellK (eng_at Hv_.out)
        have Bxu := hd Bx.out
        have SSu := hd SS3.out
        have O0u := hd O0.out
        have O1u := hd O1.out
        clear hvk Bx SS3 O0 O1
        subst hA3
        have Bx := hd Bxu.out
        have SS3 := hd SSu.out
        have O0 := hd O0u.out
        have O1 := hd O1u.out
        clear Bxu SSu O0u O1u
        obtain ⟨hc1, -⟩ := hc1
        rw [Nat.add_zero] at hc1
        obtain ⟨c1, f1, -⟩ := Bx.out
        obtain ⟨o, ho, hco⟩ := How.out.cell hlt
        have hfo := How.out.frozen k
        have How2 := hd (How.out.set k (sgn W v))
        have Bx2 := hd (Bx.out.other (grown_set wr ⟨w1.heap.size, k, none⟩ (.int .i64 (sgn W v))) (show w1.heap.size ≠ w.heap.size by omega))
        have SS4 := hd (SS3.out.grown (grown_set wr ⟨w1.heap.size, k, none⟩ (.int .i64 (sgn W v))) O1.out)
        have Bl2 := hd (Bl.out.setCell (p := ⟨w1.heap.size, k, none⟩) (show w.heap.size ≤ w1.heap.size by omega) (.int .i64 (sgn W v)))
        have hn0 : (0 : Int) < n := by omega
        clear ho
        obtain ⟨d1, d2, -⟩ := Bx2.out
        go_wp2_with (go_at_call 108; refine (signed_c W v _ hW1 hW12).mono ?_; rintro e w' ⟨rfl, rfl⟩)
        clear hc1 hco hfo d1 d2
        refine (turnsC_halves W _ c3 n vk _ hW1 hW12 Hvl.out hn1 hn7 SS4.out).mono ?_
        rintro e w9 ⟨A9, c9, rfl, own9, b9⟩
        clear c1 f1
        have h1s : w1.heap.size < (wr.setCell ⟨w1.heap.size, k, none⟩ (.int .i64 (sgn W v))).heap.size := How2.out.lt.2
        have Bx9 := hd (Bx2.out.below b9)
        have How9 := hd (How2.out.below b9)
        have Bl9 := hd (Bl2.out.trans (b9.mono Bl2.out.size))
        have O09 := hd (own9.off (g := w.heap.size) (by omega))
        have O19 := hd (own9.off (g := w1.heap.size) h1s)
        have gs := grown_set w9 ⟨w.heap.size, 0, none⟩ (.slice A9 n c9)
        have SSn := hd (own9.keep_lo gs (fun r hr => by simp at hr; omega)).sg
        have Hown := hd (How9.out.keep_lo gs (fun r hr => by simp at hr; omega))
        have Bxn := hd (Bx9.out.put (.slice A9 n c9))
        have Bln := hd (Bl9.out.setCell (p := ⟨w.heap.size, 0, none⟩) (Nat.le_refl _) (.slice A9 n c9))
        have SSn := hd (show SS _ A9 (eng W (iterF halvesV (k + 1) vs)) by rw [← Hnx.out]; exact SSn.out)
        have Hxl := hd How.out.1
        clear own9 b9 gs h1s
        obtain ⟨c1, f1, -⟩ := Bx9.out
        go_wp2
        go_roundw
        case rel => exact ⟨k + 1, xs.set k (sgn W v), A9, c9, by omega, by go_num, take_set_succ (by have := Hxl.out; omega) Hxt.out Hux.out, Hown.out, Bxn.out, SSn.out, O09.out, O19.out, Bln.out⟩
        case measure => simp [intOf]; omega
      · obtain rfl : k = K := by omega
        have hxs : xs = us := by
          have h1 := Hxt.out
          rw [List.take_of_length_le (by have := How.out.1; omega), List.take_of_length_le (by rw [Hul.out]; omega)] at h1
          exact h1
        subst hxs
        have Ho := hd How.out.own
        go_wp2
        go_ret2
        rw [Hf.out]
        refine ⟨some ⟨w1.heap.size, 0, none⟩, k, ?_, Ho.out.low (by omega), Bl.out⟩
        rw [Option.getD_some, Hul.out]
        rfl

theorem RunEngine_any (n : Nat) (A : Option Addr) (c : Nat) (cs : List ByteArray) (N : Int) (w : World) (hn : cs.length = n) (h : SS w A cs) (hs : Short cs) :
    Calls Try.prog 23 #[.agg #[.slice A n c], .int .i64 N] w fun e w' => RetO 3 w.heap.size w (runF (manyV · 1) N cs) e w' := by
  have Hh := hd h
  have Hs := hd hs
  have Hn := hd hn
  have Box := hd (Cl.new w (.slice A n c) 36)
  have Bel := hd ((Below.refl w.heap.size w).alloc (Nat.le_refl _) (.cells #[.slice A n c] 36))
  clear h hs hn
  go_enter Try.func23, Try.ntmps23
  go_wp2_with fail
  refine (resultsOfW_any _ A c cs N _ Hn.out (Hh.out.alloc _) Hs.out).mono ?_
  rintro e w1 ⟨A1, c1, rfl, own, b1⟩
  have Own := hd own
  have B1 := hd (Bel.out.trans (b1.mono (by simp)))
  clear own b1
  go_wp2
  go_ret2
  exact ⟨A1, c1, rfl, Own.out.low (by simp), B1.out⟩
theorem RunHalves_any (n : Nat) (A : Option Addr) (c : Nat) (cs : List ByteArray) (N : Int) (w : World) (hn : cs.length = n) (h : SS w A cs) (hs : Short cs) :
    Calls Try.prog 30 #[.agg #[.slice A n c], .int .i64 N] w fun e w' => RetO 3 w.heap.size w (runF halvesV N cs) e w' := by
  have Hh := hd h
  have Hs := hd hs
  have Hn := hd hn
  have Box := hd (Cl.new w (.slice A n c) 36)
  have Bel := hd ((Below.refl w.heap.size w).alloc (Nat.le_refl _) (.cells #[.slice A n c] 36))
  clear h hs hn
  go_enter Try.func30, Try.ntmps30
  go_wp2_with fail
  refine (resultsOfH_any _ A c cs N _ Hn.out (Hh.out.alloc _) Hs.out).mono ?_
  rintro e w1 ⟨A1, c1, rfl, own, b1⟩
  have Own := hd own
  have B1 := hd (Bel.out.trans (b1.mono (by simp)))
  clear own b1
  go_wp2
  go_ret2
  exact ⟨A1, c1, rfl, Own.out.low (by simp), B1.out⟩

theorem l3Count_any (n : Nat) (A : Option Addr) (c : Nat) (cs : List ByteArray) (N : Int) (b : Bool) (w : World) (hn : cs.length = n) (h : SS w A cs) (hs : Short cs) (hb : (engV cs && (decide (0 ≤ N) && decide (N ≤ 60))) = b) :
    Calls Try.prog 74 #[.agg #[.slice A n c], .int .i64 N] w fun e w' => e = .returned (.bool b) ∧ Below w.heap.size w w' := by
  have Hh := hd h
  have Hs := hd hs
  have Hn := hd hn
  have Bel := hd ((Below.refl w.heap.size w).alloc (Nat.le_refl _) (.cells #[.slice A n c] 36))
  have Box := hd (Cl.new w (.slice A n c) 36)
  clear h hs hn
  subst hb
  cases hv : engV cs
  · have Hv := hd hv
    clear hv
    go_enter Try.func74, Try.ntmps74
    go_wp2_with fail
    refine (sEngineValid_b _ A c cs false _ Hn.out (Hh.out.alloc _) Hs.out Hv.out).mono ?_
    rintro e w1 ⟨rfl, b1⟩
    have Bel2 := hd (Bel.out.trans (b1.mono (by simp)))
    clear b1
    go_wp2
    go_ret
    exact ⟨rfl, Bel2.out⟩
  · have Hv := hd hv
    clear hv
    go_enter Try.func74, Try.ntmps74
    go_wp2_with fail
    refine (sEngineValid_b _ A c cs true _ Hn.out (Hh.out.alloc _) Hs.out Hv.out).mono ?_
    rintro e w1 ⟨rfl, b1⟩
    have Bel2 := hd (Bel.out.trans (b1.mono (by simp)))
    clear b1
    go_wp2_with fail
    refine (l1In_any N 0 60 _).mono ?_
    rintro e w2 ⟨rfl, rfl⟩
    go_wp2
    go_ret
    exact ⟨rfl, Bel2.out⟩

/-- What the loop of the reference's runs has done. -/
def RunS (w : World) (n K W : Nat) (f : List Int → List Int) (vs us : List Int) (o i : Value) (wr : World) : Prop :=
  ∃ (k : Nat) (A : Option Addr) (c : Nat) (A' : Option Addr) (c' : Nat), k ≤ K ∧ i = .int .i64 k ∧ o = .slice A' k c' ∧ OwnI 3 (w.heap.size + 1) wr A' c' (us.take k) ∧ Cl wr w.heap.size (.slice A n c) ∧ SS wr A (eng W (iterF f k vs)) ∧
    (∀ a, A = some a → (Value.slice A' k c').ownBlock ≠ some a.block) ∧ Below w.heap.size w wr

set_option maxHeartbeats 3200000 in
theorem sRunEngine_any (n : Nat) (A : Option Addr) (c : Nat) (cs : List ByteArray) (N : Int) (w : World) (hn : cs.length = n) (h : SS w A cs) (hs : Short cs) :
    Calls Try.prog 21 #[.agg #[.slice A n c], .int .i64 N] w fun e w' => RetO 3 w.heap.size w (runF (manyV · 1) N cs) e w' := by
  obtain ⟨i0, hi, hz0, hz1, hz2⟩ := info_parts infoI
  have Hh := hd h
  have Hs := hd hs
  have Hn := hd hn
  have Box := hd ((Cl.new w (.slice A n c) 36).alloc (.cells #[] 3))
  have B0 := hd (((Below.refl w.heap.size w).alloc (Nat.le_refl _) (.cells #[.slice A n c] 36)).alloc (by simp) (.cells #[] 3))
  have Own0 := hd (OwnI.lit0 3 (w.alloc (.cells #[.slice A n c] 36)))
  have hsz0 : (w.alloc (.cells #[.slice A n c] 36)).heap.size = w.heap.size + 1 := by simp
  have hsz1 : ((w.alloc (.cells #[.slice A n c] 36)).alloc (.cells #[] 3)).heap.size = w.heap.size + 2 := by simp
  rw [hsz0] at Own0
  obtain ⟨b1, hb1⟩ : ∃ b1, b1 = w.heap.size + 1 := ⟨_, rfl⟩
  clear h hs hn
  cases hb : (engV cs && (decide (0 ≤ N) && decide (N ≤ 60)))
  · have Hf : Hid (runF (manyV · 1) N cs = none) := hd (runF_none hb)
    have Hb := hd hb
    obtain ⟨c1, f1, -⟩ := Box.out
    clear hb hb1
    go_enter Try.func21, Try.ntmps21
    go_wp2_with fail
    refine (l3Count_any _ A c cs N false _ Hn.out ((Hh.out.alloc _).alloc _) Hs.out Hb.out).mono ?_
    rintro e w1 ⟨rfl, b1⟩
    have Own1 := hd (Own0.out.below b1)
    have Bel2 := hd (B0.out.trans (b1.mono (by rw [hsz1]; omega)))
    clear b1 c1 f1
    go_wp2
    go_ret2
    rw [Hf.out]
    exact ⟨_, _, rfl, Own1.out.low (by omega), Bel2.out⟩
  · have hb2 : engV cs = true ∧ 0 ≤ N ∧ N ≤ 60 := by simpa using hb
    have Hb := hd hb
    obtain ⟨hv, hN0, hN1⟩ := hb2
    obtain ⟨K, rfl⟩ := Int.eq_ofNat_of_zero_le hN0
    have hK : K ≤ 60 := by omega
    have Hf := hd (runF_some (f := (manyV · 1)) hv (show (0 : Int) ≤ K by omega) (by omega))
    obtain ⟨he, hW1, hW12, hn1, hn7⟩ := engV_vals hv
    obtain ⟨W, hW⟩ : ∃ W, W = hsz cs := ⟨_, rfl⟩
    obtain ⟨vs, hvs⟩ : ∃ vs, vs = cvs cs := ⟨_, rfl⟩
    rw [← hW, ← hvs] at he Hf
    rw [← hW] at hW1 hW12
    rw [← hvs] at hn1 hn7
    have Hl : Hid (vs.length = n) := hd (by rw [hvs, ← Hn.out]; simp [cvs])
    rw [Hl.out] at hn1 hn7
    rw [Int.toNat_natCast] at Hf
    obtain ⟨us, Hus⟩ : ∃ us, Hid (tab K (fun i => sgn W ((iterF (manyV · 1) i vs).getD 0 0)) = us) := ⟨_, hd rfl⟩
    have Hul : Hid (us.length = K) := hd (by rw [← Hus.out, tab_length])
    have He := hd he
    rw [Hus.out] at Hf
    have Of0 := hd (off_low Hh.out (by rw [Hn.out]; omega) (Nat.le_refl _))
    have Of1 : Hid (∀ a, A = some a → (Value.slice (some ⟨w.heap.size + 1, 0, none⟩) 0 0).ownBlock ≠ some a.block) := hd (by
      have h9 := off_low (g := w.heap.size + 1) Hh.out (by rw [Hn.out]; omega) (by omega)
      intro a ha
      have := h9 a ha
      simp [Value.ownBlock]
      omega)
    obtain ⟨c1, f1, -⟩ := Box.out
    clear he hv hW hvs hb hb1 hN0 hN1
    go_enter Try.func21, Try.ntmps21
    go_wp2_with fail
    refine (l3Count_any _ A c cs K true _ Hn.out ((Hh.out.alloc _).alloc _) Hs.out Hb.out).mono ?_
    rintro e w1 ⟨rfl, b1⟩
    have Own1 := hd (Own0.out.below b1)
    have Bel2 := hd (B0.out.trans (b1.mono (by rw [hsz1]; omega)))
    have Box := hd (Box.out.below b1)
    have S1 : Hid (SS w1 A (eng W vs)) := hd (by rw [← He.out]; exact Hh.out.below Bel2.out)
    clear b1 c1 f1 hsz0 hsz1
    obtain ⟨c1, f1, -⟩ := Box.out
    go_wp2
    go_loopw [6, 7] (fun o i wr => RunS w n K W (manyV · 1) vs us o i wr) (fun _ i _ => K - (intOf i).toNat)
    case atStart => exact ⟨0, A, c, _, 0, by omega, rfl, rfl, Own1.out, Box.out, S1.out, Of1.out, Bel2.out⟩
    case round =>
      clear Own1 Own0 c1 f1 Bel2 Box S1 Of0 Of1 B0 b1
      obtain ⟨k, A3, c3, A4, c4, hk, rfl, rfl, hown, hbox, hss, hoff, hbel⟩ := hrel
      have Own := hd hown
      have Bx := hd hbox
      have SS3 := hd hss
      have Off3 := hd hoff
      have Bl := hd hbel
      have hszr := hbox.2.2
      clear hown hbox hss hoff hbel
      by_cases hlt : k < K
      · obtain ⟨vk, hvk⟩ : ∃ vk, vk = iterF (manyV · 1) k vs := ⟨_, rfl⟩
        have Hvl : Hid (vk.length = n) := hd (by rw [hvk, iterF_length (fun _ => manyV_length _ _), Hl.out])
        have Hnx : Hid ((manyV · 1) vk = iterF (manyV · 1) (k + 1) vs) := hd (by rw [hvk, iterF_succ])
        obtain ⟨v, Hv_⟩ : ∃ v, Hid (vk[0]? = some v) := ⟨vk[0]'(by rw [Hvl.out]; omega), hd (List.getElem?_eq_getElem _)⟩
        have Hux : Hid (us[k]? = some (sgn W v)) := hd (by rw [← Hus.out, tab_at _ hlt, ← hvk, getD_at Hv_.out])
        have Htk : Hid ((us.take k).length = k) := hd (by rw [List.length_take, Hul.out]; omega)
        have Hts : Hid (us.take (k + 1) = us.take k ++ [sgn W v]) := hd (by
          obtain ⟨h1, h2⟩ := List.getElem?_eq_some_iff.1 Hux.out
          rw [List.take_succ_eq_append_getElem h1, h2])
        rw [← hvk] at SS3
        obtain ⟨b, off, hA3, hb3⟩ := SS3.out.nonempty (by rw [eng_length, Hvl.out]; omega)
        have Bxu := hd Bx.out
        have SSu := hd SS3.out
        have O3u := hd Off3.out
        clear hvk Bx SS3 Off3
        subst hA3
        have Bx := hd Bxu.out
        have SS3 := hd SSu.out
        have Off3 := hd O3u.out
        clear Bxu SSu O3u
        have hc1 := (SS3.out.cellK (eng_at Hv_.out)).1
        rw [Nat.add_zero] at hc1
        obtain ⟨c1, f1, -⟩ := Bx.out
        have hn0 : (0 : Int) < n := by omega
        have e1 : (k : Int) < K := by omega
        have Bxa := hd (Bx.out.alloc (.cells #[.int .i64 (sgn W v)] 3))
        have SSa := hd (SS3.out.alloc (.cells #[.int .i64 (sgn W v)] 3))
        have Bla := hd (Bl.out.alloc Bl.out.size (.cells #[.int .i64 (sgn W v)] 3))
        go_wp2_with (first
          | (go_at_call 75; refine (l1Signed_c W v _ hW1 hW12).mono ?_; rintro e w' ⟨rfl, rfl⟩)
          | (at_builtin; refine wpList_app1g rfl _ _ 23 3 rfl (w.heap.size + 1) i0 Try.underlying23 hi hz0 hz1 hz2 k A4 c4 _ wr.heap.size (sgn W v) rfl rfl Htk.out (new_cell _ _ _) (Own.out.alloc _) (by omega) (by simp; omega) ?_; intro A5 c5 w5 own5 gr5 hz5; have Own5 := hd own5; have Bx5 := hd (Bxa.out.lowB ((Below.refl (w.heap.size + 1) _).grown gr5 (by simp; omega) (fun r hr => ((Own.out.alloc (.cells #[.int .i64 (sgn W v)] 3)).2.lt r (by rw [Htk.out]; exact hr)).1)) (by omega)); have SS5 := hd (SSa.out.grownO gr5 Off3.out); have Bl5 := hd (Bla.out.grown gr5 Bla.out.size (fun r hr => Nat.le_trans (by omega) ((Own.out.alloc (.cells #[.int .i64 (sgn W v)] 3)).2.lt r (by rw [Htk.out]; exact hr)).1)); clear own5 gr5 hz5 c1 f1 hc1; obtain ⟨c1, f1, -⟩ := Bx5.out))
        go_wp2_with fail
        refine (turnsS_whole W _ c3 n vk _ hW1 hW12 Hvl.out hn1 hn7 SS5.out).mono ?_
        rintro e w9 ⟨A9, c9, rfl, own9, b9⟩
        clear c1 f1
        have Bx9 := hd (Bx5.out.below b9)
        have hsz9 := Bx5.out.2.2
        have Own9 := hd (Own5.out.below b9)
        have Bl9 := hd (Bl5.out.trans (b9.mono Bl5.out.size))
        have Off9 : Hid (∀ a, A9 = some a → (Value.slice A5 (k + 1) c5).ownBlock ≠ some a.block) := hd (by
          intro a ha e
          have h1 := (Own5.out.2.lt a.block (by rw [List.length_append, Htk.out]; exact e)).2
          exact own9.off h1 a ha rfl)
        have gs := grown_set w9 ⟨w.heap.size, 0, none⟩ (.slice A9 n c9)
        have SSn := hd (own9.keep_lo gs (fun r hr => by simp at hr; omega)).sg
        have Own9g : Hid (OwnG (Value.int .i64) 3 (w.heap.size + 1) w9 A5 c5 (us.take k ++ [sgn W v])) := hd Own9.out
        have Ownn := hd (Own9g.out.keep_lo gs (fun r hr => by simp at hr; omega))
        rw [← Hts.out] at Ownn
        have Bxn := hd (Bx9.out.put (.slice A9 n c9))
        have Bln := hd (Bl9.out.setCell (p := ⟨w.heap.size, 0, none⟩) (Nat.le_refl _) (.slice A9 n c9))
        have SSn := hd (show SS _ A9 (eng W (iterF (manyV · 1) (k + 1) vs)) by rw [← Hnx.out]; exact SSn.out)
        clear own9 b9 gs
        obtain ⟨c1, f1, -⟩ := Bx9.out
        go_wp2
        go_roundw
        case rel => exact ⟨k + 1, A9, c9, A5, c5, by omega, by go_num, rfl, Ownn.out, Bxn.out, SSn.out, Off9.out, Bln.out⟩
        case measure => simp [intOf]; omega
      · obtain rfl : k = K := by omega
        have e1 : ¬ (k : Int) < k := by omega
        have Htk : Hid (us.take k = us) := hd (List.take_of_length_le (by rw [Hul.out]; omega))
        rw [Htk.out] at Own
        obtain ⟨c1, f1, -⟩ := Bx.out
        go_wp2
        go_ret2
        rw [Hf.out]
        refine ⟨A4, c4, ?_, Own.out.low (by omega), Bl.out⟩
        rw [Option.getD_some, Hul.out]
        rfl

set_option maxHeartbeats 3200000 in
theorem sRunHalves_any (n : Nat) (A : Option Addr) (c : Nat) (cs : List ByteArray) (N : Int) (w : World) (hn : cs.length = n) (h : SS w A cs) (hs : Short cs) :
    Calls Try.prog 29 #[.agg #[.slice A n c], .int .i64 N] w fun e w' => RetO 3 w.heap.size w (runF halvesV N cs) e w' := by
  obtain ⟨i0, hi, hz0, hz1, hz2⟩ := info_parts infoI
  have Hh := hd h
  have Hs := hd hs
  have Hn := hd hn
  have Box := hd ((Cl.new w (.slice A n c) 36).alloc (.cells #[] 3))
  have B0 := hd (((Below.refl w.heap.size w).alloc (Nat.le_refl _) (.cells #[.slice A n c] 36)).alloc (by simp) (.cells #[] 3))
  have Own0 := hd (OwnI.lit0 3 (w.alloc (.cells #[.slice A n c] 36)))
  have hsz0 : (w.alloc (.cells #[.slice A n c] 36)).heap.size = w.heap.size + 1 := by simp
  have hsz1 : ((w.alloc (.cells #[.slice A n c] 36)).alloc (.cells #[] 3)).heap.size = w.heap.size + 2 := by simp
  rw [hsz0] at Own0
  obtain ⟨b1, hb1⟩ : ∃ b1, b1 = w.heap.size + 1 := ⟨_, rfl⟩
  clear h hs hn
  cases hb : (engV cs && (decide (0 ≤ N) && decide (N ≤ 60)))
  · have Hf : Hid (runF halvesV N cs = none) := hd (runF_none hb)
    have Hb := hd hb
    obtain ⟨c1, f1, -⟩ := Box.out
    clear hb hb1
    go_enter Try.func29, Try.ntmps29
    go_wp2_with fail
    refine (l3Count_any _ A c cs N false _ Hn.out ((Hh.out.alloc _).alloc _) Hs.out Hb.out).mono ?_
    rintro e w1 ⟨rfl, b1⟩
    have Own1 := hd (Own0.out.below b1)
    have Bel2 := hd (B0.out.trans (b1.mono (by rw [hsz1]; omega)))
    clear b1 c1 f1
    go_wp2
    go_ret2
    rw [Hf.out]
    exact ⟨_, _, rfl, Own1.out.low (by omega), Bel2.out⟩
  · have hb2 : engV cs = true ∧ 0 ≤ N ∧ N ≤ 60 := by simpa using hb
    have Hb := hd hb
    obtain ⟨hv, hN0, hN1⟩ := hb2
    obtain ⟨K, rfl⟩ := Int.eq_ofNat_of_zero_le hN0
    have hK : K ≤ 60 := by omega
    have Hf := hd (runF_some (f := halvesV) hv (show (0 : Int) ≤ K by omega) (by omega))
    obtain ⟨he, hW1, hW12, hn1, hn7⟩ := engV_vals hv
    obtain ⟨W, hW⟩ : ∃ W, W = hsz cs := ⟨_, rfl⟩
    obtain ⟨vs, hvs⟩ : ∃ vs, vs = cvs cs := ⟨_, rfl⟩
    rw [← hW, ← hvs] at he Hf
    rw [← hW] at hW1 hW12
    rw [← hvs] at hn1 hn7
    have Hl : Hid (vs.length = n) := hd (by rw [hvs, ← Hn.out]; simp [cvs])
    rw [Hl.out] at hn1 hn7
    rw [Int.toNat_natCast] at Hf
    obtain ⟨us, Hus⟩ : ∃ us, Hid (tab K (fun i => sgn W ((iterF halvesV i vs).getD 0 0)) = us) := ⟨_, hd rfl⟩
    have Hul : Hid (us.length = K) := hd (by rw [← Hus.out, tab_length])
    have He := hd he
    rw [Hus.out] at Hf
    have Of0 := hd (off_low Hh.out (by rw [Hn.out]; omega) (Nat.le_refl _))
    have Of1 : Hid (∀ a, A = some a → (Value.slice (some ⟨w.heap.size + 1, 0, none⟩) 0 0).ownBlock ≠ some a.block) := hd (by
      have h9 := off_low (g := w.heap.size + 1) Hh.out (by rw [Hn.out]; omega) (by omega)
      intro a ha
      have := h9 a ha
      simp [Value.ownBlock]
      omega)
    obtain ⟨c1, f1, -⟩ := Box.out
    clear he hv hW hvs hb hb1 hN0 hN1
    go_enter Try.func29, Try.ntmps29
    go_wp2_with fail
    refine (l3Count_any _ A c cs K true _ Hn.out ((Hh.out.alloc _).alloc _) Hs.out Hb.out).mono ?_
    rintro e w1 ⟨rfl, b1⟩
    have Own1 := hd (Own0.out.below b1)
    have Bel2 := hd (B0.out.trans (b1.mono (by rw [hsz1]; omega)))
    have Box := hd (Box.out.below b1)
    have S1 : Hid (SS w1 A (eng W vs)) := hd (by rw [← He.out]; exact Hh.out.below Bel2.out)
    clear b1 c1 f1 hsz0 hsz1
    obtain ⟨c1, f1, -⟩ := Box.out
    go_wp2
    go_loopw [6, 7] (fun o i wr => RunS w n K W halvesV vs us o i wr) (fun _ i _ => K - (intOf i).toNat)
    case atStart => exact ⟨0, A, c, _, 0, by omega, rfl, rfl, Own1.out, Box.out, S1.out, Of1.out, Bel2.out⟩
    case round =>
      clear Own1 Own0 c1 f1 Bel2 Box S1 Of0 Of1 B0 b1
      obtain ⟨k, A3, c3, A4, c4, hk, rfl, rfl, hown, hbox, hss, hoff, hbel⟩ := hrel
      have Own := hd hown
      have Bx := hd hbox
      have SS3 := hd hss
      have Off3 := hd hoff
      have Bl := hd hbel
      have hszr := hbox.2.2
      clear hown hbox hss hoff hbel
      by_cases hlt : k < K
      · obtain ⟨vk, hvk⟩ : ∃ vk, vk = iterF halvesV k vs := ⟨_, rfl⟩
        have Hvl : Hid (vk.length = n) := hd (by rw [hvk, iterF_length halvesV_length, Hl.out])
        have Hnx : Hid (halvesV vk = iterF halvesV (k + 1) vs) := hd (by rw [hvk, iterF_succ])
        obtain ⟨v, Hv_⟩ : ∃ v, Hid (vk[0]? = some v) := ⟨vk[0]'(by rw [Hvl.out]; omega), hd (List.getElem?_eq_getElem _)⟩
        have Hux : Hid (us[k]? = some (sgn W v)) := hd (by rw [← Hus.out, tab_at _ hlt, ← hvk, getD_at Hv_.out])
        have Htk : Hid ((us.take k).length = k) := hd (by rw [List.length_take, Hul.out]; omega)
        have Hts : Hid (us.take (k + 1) = us.take k ++ [sgn W v]) := hd (by
          obtain ⟨h1, h2⟩ := List.getElem?_eq_some_iff.1 Hux.out
          rw [List.take_succ_eq_append_getElem h1, h2])
        rw [← hvk] at SS3
        obtain ⟨b, off, hA3, hb3⟩ := SS3.out.nonempty (by rw [eng_length, Hvl.out]; omega)
        have Bxu := hd Bx.out
        have SSu := hd SS3.out
        have O3u := hd Off3.out
        clear hvk Bx SS3 Off3
        subst hA3
        have Bx := hd Bxu.out
        have SS3 := hd SSu.out
        have Off3 := hd O3u.out
        clear Bxu SSu O3u
        have hc1 := (SS3.out.cellK (eng_at Hv_.out)).1
        rw [Nat.add_zero] at hc1
        obtain ⟨c1, f1, -⟩ := Bx.out
        have hn0 : (0 : Int) < n := by omega
        have e1 : (k : Int) < K := by omega
        have Bxa := hd (Bx.out.alloc (.cells #[.int .i64 (sgn W v)] 3))
        have SSa := hd (SS3.out.alloc (.cells #[.int .i64 (sgn W v)] 3))
        have Bla := hd (Bl.out.alloc Bl.out.size (.cells #[.int .i64 (sgn W v)] 3))
        go_wp2_with (first
          | (go_at_call 75; refine (l1Signed_c W v _ hW1 hW12).mono ?_; rintro e w' ⟨rfl, rfl⟩)
          | (at_builtin; refine wpList_app1g rfl _ _ 23 3 rfl (w.heap.size + 1) i0 Try.underlying23 hi hz0 hz1 hz2 k A4 c4 _ wr.heap.size (sgn W v) rfl rfl Htk.out (new_cell _ _ _) (Own.out.alloc _) (by omega) (by simp; omega) ?_; intro A5 c5 w5 own5 gr5 hz5; have Own5 := hd own5; have Bx5 := hd (Bxa.out.lowB ((Below.refl (w.heap.size + 1) _).grown gr5 (by simp; omega) (fun r hr => ((Own.out.alloc (.cells #[.int .i64 (sgn W v)] 3)).2.lt r (by rw [Htk.out]; exact hr)).1)) (by omega)); have SS5 := hd (SSa.out.grownO gr5 Off3.out); have Bl5 := hd (Bla.out.grown gr5 Bla.out.size (fun r hr => Nat.le_trans (by omega) ((Own.out.alloc (.cells #[.int .i64 (sgn W v)] 3)).2.lt r (by rw [Htk.out]; exact hr)).1)); clear own5 gr5 hz5 c1 f1 hc1; obtain ⟨c1, f1, -⟩ := Bx5.out))
        go_wp2_with fail
        refine (turnsS_halves W _ c3 n vk _ hW1 hW12 Hvl.out hn1 hn7 SS5.out).mono ?_
        rintro e w9 ⟨A9, c9, rfl, own9, b9⟩
        clear c1 f1
        have Bx9 := hd (Bx5.out.below b9)
        have hsz9 := Bx5.out.2.2
        have Own9 := hd (Own5.out.below b9)
        have Bl9 := hd (Bl5.out.trans (b9.mono Bl5.out.size))
        have Off9 : Hid (∀ a, A9 = some a → (Value.slice A5 (k + 1) c5).ownBlock ≠ some a.block) := hd (by
          intro a ha e
          have h1 := (Own5.out.2.lt a.block (by rw [List.length_append, Htk.out]; exact e)).2
          exact own9.off h1 a ha rfl)
        have gs := grown_set w9 ⟨w.heap.size, 0, none⟩ (.slice A9 n c9)
        have SSn := hd (own9.keep_lo gs (fun r hr => by simp at hr; omega)).sg
        have Own9g : Hid (OwnG (Value.int .i64) 3 (w.heap.size + 1) w9 A5 c5 (us.take k ++ [sgn W v])) := hd Own9.out
        have Ownn := hd (Own9g.out.keep_lo gs (fun r hr => by simp at hr; omega))
        rw [← Hts.out] at Ownn
        have Bxn := hd (Bx9.out.put (.slice A9 n c9))
        have Bln := hd (Bl9.out.setCell (p := ⟨w.heap.size, 0, none⟩) (Nat.le_refl _) (.slice A9 n c9))
        have SSn := hd (show SS _ A9 (eng W (iterF halvesV (k + 1) vs)) by rw [← Hnx.out]; exact SSn.out)
        clear own9 b9 gs
        obtain ⟨c1, f1, -⟩ := Bx9.out
        go_wp2
        go_roundw
        case rel => exact ⟨k + 1, A9, c9, A5, c5, by omega, by go_num, rfl, Ownn.out, Bxn.out, SSn.out, Off9.out, Bln.out⟩
        case measure => simp [intOf]; omega
      · obtain rfl : k = K := by omega
        have e1 : ¬ (k : Int) < k := by omega
        have Htk : Hid (us.take k = us) := hd (List.take_of_length_le (by rw [Hul.out]; omega))
        rw [Htk.out] at Own
        obtain ⟨c1, f1, -⟩ := Bx.out
        go_wp2
        go_ret2
        rw [Hf.out]
        refine ⟨A4, c4, ?_, Own.out.low (by omega), Bl.out⟩
        rw [Option.getD_some, Hul.out]
        rfl

theorem runF_length {f : List Int → List Int} {N : Int} {cs : List ByteArray} {z : List Int} (h : (runF f N cs).getD [] = z) : z.length ≤ 1048576 := by
  subst h
  unfold runF
  split
  · rename_i hc
    simp only [Bool.and_eq_true, decide_eq_true_eq] at hc
    rw [Option.getD_some, tab_length]
    omega
  · simp

theorem sRunEngine_z (N : Int) (A : Option Addr) (c n : Nat) (cs : List ByteArray) (z : List Int) (ok : Bool) (w : World) (hn : cs.length = n) (h : SS w A cs) (hs : Short cs) (hz : (runF (manyV · 1) N cs).getD [] = z ∧ (runF (manyV · 1) N cs).isSome = ok) :
    Calls Try.prog 21 #[.agg #[.slice A n c], .int .i64 N] w fun e w' => RetNB 3 w.heap.size w z ok e w' := by
  obtain ⟨rfl, rfl⟩ := hz
  exact (sRunEngine_any n A c cs N w hn h hs).mono fun _ _ h => RetNB.of h
theorem RunEngine_z (N : Int) (A : Option Addr) (c n : Nat) (cs : List ByteArray) (z : List Int) (ok : Bool) (w : World) (hn : cs.length = n) (h : SS w A cs) (hs : Short cs) (hz : (runF (manyV · 1) N cs).getD [] = z ∧ (runF (manyV · 1) N cs).isSome = ok) :
    Calls Try.prog 23 #[.agg #[.slice A n c], .int .i64 N] w fun e w' => RetNB 3 w.heap.size w z ok e w' := by
  obtain ⟨rfl, rfl⟩ := hz
  exact (RunEngine_any n A c cs N w hn h hs).mono fun _ _ h => RetNB.of h
theorem sRunHalves_z (N : Int) (A : Option Addr) (c n : Nat) (cs : List ByteArray) (z : List Int) (ok : Bool) (w : World) (hn : cs.length = n) (h : SS w A cs) (hs : Short cs) (hz : (runF halvesV N cs).getD [] = z ∧ (runF halvesV N cs).isSome = ok) :
    Calls Try.prog 29 #[.agg #[.slice A n c], .int .i64 N] w fun e w' => RetNB 3 w.heap.size w z ok e w' := by
  obtain ⟨rfl, rfl⟩ := hz
  exact (sRunHalves_any n A c cs N w hn h hs).mono fun _ _ h => RetNB.of h
theorem RunHalves_z (N : Int) (A : Option Addr) (c n : Nat) (cs : List ByteArray) (z : List Int) (ok : Bool) (w : World) (hn : cs.length = n) (h : SS w A cs) (hs : Short cs) (hz : (runF halvesV N cs).getD [] = z ∧ (runF halvesV N cs).isSome = ok) :
    Calls Try.prog 30 #[.agg #[.slice A n c], .int .i64 N] w fun e w' => RetNB 3 w.heap.size w z ok e w' := by
  obtain ⟨rfl, rfl⟩ := hz
  exact (RunHalves_any n A c cs N w hn h hs).mono fun _ _ h => RetNB.of h

end Go.Proofs.Ytkmblobfamhoiaa
