/- The contracts of both sides' UnskewEngine, for whatever comes in. -/
import Derived.Test.YtkmblobfamhoiaaSpeY
import Derived.Test.YtkmblobfamhoiaaGrD
namespace Go.Proofs.Ytkmblobfamhoiaa
open Go.RowKit
set_option maxRecDepth 4000

theorem unskV_drop (vs : List Int) (k : Nat) : (unskV vs).drop k = unskG k (vs.drop k) := by
  have := unskG_drop k 0 vs
  rwa [Nat.zero_add] at this
theorem unskV_drop_cons {vs : List Int} {k : Nat} {v : Int} (h : vs[k]? = some v) : (unskV vs).drop k = (v - valF 1 ((unskV vs).drop (k + 1)) (-((k / 2 : Nat) : Int))) :: (unskV vs).drop (k + 1) := by
  obtain ⟨hk, rfl⟩ := List.getElem?_eq_some_iff.1 h
  rw [unskV_drop vs (k + 1), unskV_drop vs k, List.drop_eq_getElem_cons hk, unskG]
theorem unskV_at {vs : List Int} {k : Nat} {v : Int} (h : vs[k]? = some v) : (unskV vs)[k]? = some (v - valF 1 ((unskV vs).drop (k + 1)) (-((k / 2 : Nat) : Int))) := by
  have h2 : ((unskV vs).drop k)[0]? = (unskV vs)[k]? := by rw [List.getElem?_drop, Nat.add_zero]
  rw [← h2, unskV_drop_cons h]
  rfl
theorem mixV_drop_here {us vs : List Int} {k : Nat} {v : Int} (hx : vs[k]? = some v) : (mixV vs us (k + 1)).drop k = v :: us.drop (k + 1) := by
  obtain ⟨hk, rfl⟩ := List.getElem?_eq_some_iff.1 hx
  rw [mixV, List.take_succ_eq_append_getElem hk, List.append_assoc, List.drop_append, List.drop_eq_nil_of_le (by simp; omega), List.length_take, Nat.min_eq_left (by omega), Nat.sub_self]
  rfl
theorem mixV_drop_next {us vs : List Int} {k : Nat} (hk : k ≤ vs.length) : (mixV vs us k).drop k = us.drop k := by
  rw [mixV, List.drop_append, List.drop_eq_nil_of_le (by simp; omega), List.length_take, Nat.min_eq_left (by omega), Nat.sub_self]
  rfl
theorem manyV_cons (v : Int) (H : List Int) (N : Int) : (manyV (v :: H) N).set 0 v = v :: manyV H N := by
  have h1 := manyV_drop (v :: H) N 1
  rw [List.drop_succ_cons, List.drop_zero] at h1
  rw [← h1]
  have hl := manyV_length (v :: H) N
  cases hm : manyV (v :: H) N with
  | nil => rw [hm] at hl; simp at hl
  | cons a r => rfl
theorem forth_at (v : Int) (H : List Int) (m : Nat) : (manyV (v :: manyV H (-(m : Int))) m)[0]? = some (v - valF 1 H (-(m : Int))) := by
  rw [manyV_at _ (by simp), List.drop_zero, forth_again]
theorem drop_cons_set (W : Nat) (v : Int) (H : List Int) (N : Int) : (eng W (manyV (v :: H) N)).set 0 (showC W v) = eng W (v :: manyV H N) := by
  rw [eng_set, manyV_cons]
theorem eng_drop (W : Nat) (vs : List Int) (k : Nat) : (eng W vs).drop k = eng W (vs.drop k) := by simp [eng, List.map_drop]

set_option maxHeartbeats 800000 in
theorem UnskewEngine_any (A : Option Addr) (c : Nat) (cs : List ByteArray) (w : World) (h : SS w A cs) (hs : Short cs) :
    Calls Try.prog 56 #[.agg #[.slice A cs.length c]] w fun e w' => RetEO 9 w.heap.size w (turnF unskV cs) e w' := by
  have Hh := hd h
  have Hs := hd hs
  have F0 := hd (Fr.start w (.slice A cs.length c) (.slice none 0 0) 36 36)
  clear h hs
  cases hv : engV cs
  · have Hf : Hid (turnF unskV cs = none) := hd (turnF_none hv)
    have Hv := hd hv
    clear hv
    go_enter Try.func56, Try.ntmps56
    go_wp2_with fail
    refine (EngineValid_b _ A c cs false _ rfl ((Hh.out.alloc _).alloc _) Hs.out Hv.out).mono ?_
    rintro e w1 ⟨rfl, b1⟩
    have F1 := hd (F0.out.below b1)
    obtain ⟨⟨c1, f1⟩, ⟨c2, f2⟩, -, -⟩ := F1.out
    clear b1
    go_wp2
    exact bodyPost_ret (v := .tuple #[.agg #[.slice none 0 0], .bool false]) (by simp [results, Try.results56, c2, go_sem]) rfl (RetEO.none_ Hf.out (F1.out.done _))
  · have Hf := hd (turnF_some (f := unskV) hv)
    obtain ⟨he, hW1, hW12, hn1, hn7⟩ := engV_vals hv
    have Hl : Hid ((cvs cs).length = cs.length) := hd (by simp [cvs])
    obtain ⟨W, hW⟩ : ∃ W, W = hsz cs := ⟨_, rfl⟩
    obtain ⟨vs, hvs⟩ : ∃ vs, vs = cvs cs := ⟨_, rfl⟩
    rw [← hW, ← hvs] at he Hf
    rw [← hW] at hW1 hW12
    rw [← hvs] at hn1 hn7 Hl
    have He := hd he
    have Hv := hd hv
    rw [Hl.out] at hn1 hn7
    have Hml : Hid ((eng W (unskV vs)).length = cs.length) := hd (by rw [eng_length, unskV_length, Hl.out])
    clear he hv hW hvs
    go_enter Try.func56, Try.ntmps56
    go_wp2_with fail
    refine (EngineValid_b _ A c cs true _ rfl ((Hh.out.alloc _).alloc _) Hs.out Hv.out).mono ?_
    rintro e w1 ⟨rfl, b1⟩
    have F1 := hd (F0.out.below b1)
    have S1 : Hid (SS w1 A (eng W vs)) := hd (by rw [← He.out]; exact (Hh.out.below F1.out.2.2.2))
    obtain ⟨⟨c1, f1⟩, ⟨c2, f2⟩, -, -⟩ := F1.out
    clear b1
    go_wp2_with fail
    refine (CloneS_n cs.length A c (eng W vs) _ (by rw [eng_length]; exact Hl.out) S1.out (by rw [eng_length, Hl.out]; omega) (by rw [eng_length, Hl.out]; omega)).mono ?_
    rintro e w2 ⟨A2, c3, rfl, own2, b2⟩
    have Hel : Hid ((eng W vs).length = cs.length) := hd (by rw [eng_length, Hl.out])
    obtain ⟨g, hA2, hg1, hg2⟩ := own2.addr (by rw [Hel.out]; omega)
    subst hA2
    rw [Hel.out]
    have F2 := hd (F1.out.below b2)
    have hszz : w.heap.size + 2 ≤ w1.heap.size := F1.out.2.2.1
    have Own2 := hd (own2.low hszz)
    have S2 := hd (S1.out.below b2)
    obtain ⟨us, Hus⟩ : ∃ us, Hid (unskV vs = us) := ⟨_, hd rfl⟩
    rw [Hus.out] at Hf Hml
    have Hul : Hid (us.length = vs.length) := hd (by rw [← Hus.out, unskV_length])
    have hg3 : w.heap.size + 2 ≤ g := by omega
    clear c1 f1 c2 f2 b2 own2 hg1 hg2
    have Hb2 := hd (Below.refl w2.heap.size w2)
    have Hcap : cs.length ≤ c3 := by have := Own2.out.cap; rwa [Hel.out] at this
    go_wp2
    go_loopw [5] (fun i wr => ∃ k : Nat, k ≤ cs.length ∧ i = .int .i64 ((k : Int) - 1) ∧ Fr w wr (.slice A cs.length c) (.slice none 0 0) ∧ OwnS 9 (w.heap.size + 2) wr (some ⟨g, 0, none⟩) c3 (eng W (mixV vs us k)))
      (fun i _ => (intOf i + 1).toNat)
    case atStart => exact ⟨cs.length, by omega, by go_num, F2.out, by rw [show mixV vs us cs.length = vs by rw [← Hl.out]; exact mixV_full Hul.out.symm (by rw [Hul.out]; exact Nat.le_refl _)]; exact Own2.out⟩
    case round =>
      clear F2 Own2 S2 Hb2
      obtain ⟨k, hk, rfl, fr, own⟩ := hrel
      have F := hd fr
      have Own := hd own
      clear fr own
      by_cases hk0 : 0 < k
      · obtain ⟨l, rfl⟩ : ∃ l, k = l + 1 := ⟨k - 1, by omega⟩
        have ei : ((l + 1 : Nat) : Int) - 1 = (l : Int) := by omega
        rw [ei]
        have hn := Hl.out
        obtain ⟨v, Hv_⟩ : ∃ v, Hid (vs[l]? = some v) := ⟨vs[l], hd (List.getElem?_eq_getElem (by omega))⟩
        obtain ⟨H, HH⟩ : ∃ H, Hid (us.drop (l + 1) = H) := ⟨_, hd rfl⟩
        have HHl : Hid (H.length = cs.length - (l + 1)) := hd (by rw [← HH.out, List.length_drop, Hul.out, hn])
        have Hux : Hid (us[l]? = some (v - valF 1 H (-((l / 2 : Nat) : Int)))) := hd (by rw [← HH.out, ← Hus.out]; exact unskV_at Hv_.out)
        have Hcons : Hid ((v :: H).length = cs.length - l) := hd (by rw [List.length_cons, HHl.out]; omega)
        have Hdr : Hid (SS wr (some ⟨g, 0 + l, none⟩) (eng W (v :: H))) := hd (by
          have := Own.out.sg.drop rfl l
          rwa [eng_drop, mixV_drop_here Hv_.out, HH.out] at this)
        clear hn ei
        simp only [Nat.zero_add] at Hdr
        have Hlx : Hid (l < (eng W (mixV vs us (l + 1))).length) := hd (by rw [eng_length, mixV_length Hul.out.symm, Hul.out, Hl.out]; omega)
        have Hq : Hid (IntKind.i64.wrap (-IntKind.i64.wrap ((l : Int) / 2)) = -((l / 2 : Nat) : Int)) := hd (by
          rw [IntWalk.i64_in ((l : Int) / 2) (by omega), IntWalk.i64_in _ (by omega)]
          omega)
        obtain ⟨⟨c1, f1⟩, ⟨c2, f2⟩, -, -⟩ := F.out
        have e1 : (l : Int) ≤ cs.length := by omega
        go_wp2_with fail
        refine (turnedMany_s W (v :: H) (-((l / 2 : Nat) : Int)) _ (some ⟨g, l, none⟩) (c3 - l) (cs.length - l) wr (by first | exact Hq.out | omega) Hdr.out hW1 hW12 Hcons.out (by omega) (by omega) (by omega) (by omega)).mono ?_
        rintro e w3 ⟨A4, c4, rfl, own4, b4⟩
        have Hmn : Hid ((eng W (manyV (v :: H) (-((l / 2 : Nat) : Int)))).length = cs.length - l) := hd (by rw [eng_length, manyV_length]; exact Hcons.out)
        have Own4 := hd (Own.out.below b4)
        have F4 := hd (F.out.below b4)
        obtain ⟨g4, hA4, hg41, hg42⟩ := own4.addr (by rw [Hmn.out]; omega)
        subst hA4
        have hwr : w.heap.size + 2 ≤ wr.heap.size := F.out.2.2.1
        have HS4 : Hid (SS w3 A (eng W vs)) := hd (by rw [← He.out]; exact Hh.out.below F4.out.2.2.2)
        obtain ⟨s1, b, off, hs1, rfl, hb, hc1⟩ := HS4.out.at_ (k := l) (by rw [eng_length, Hl.out]; omega)
        obtain rfl : s1 = showC W v := by rw [eng_at Hv_.out] at hs1; injection hs1 with hs1; exact hs1.symm
        obtain ⟨g', o, ho, hg', hco, hfo⟩ := own4.at_ (k := 0) (by rw [Hmn.out]; omega)
        simp only [Option.some.injEq, Addr.mk.injEq, and_true] at hg'
        subst hg'
        have Own5 := hd (own4.set 0 (showC W v))
        rw [drop_cons_set] at Own5
        have hgg : g < wr.heap.size := by
          obtain ⟨g9, h9, h91, h92⟩ := Own.out.addr (by have := Hlx.out; omega)
          simp only [Option.some.injEq, Addr.mk.injEq, and_true] at h9
          omega
        have OwnB := hd (Own4.out.keep_hi (U := wr.heap.size) (fun x hx => by simp [Value.ownBlock] at hx; omega) (grown_set w3 ⟨g4, 0, none⟩ (.string (showC W v))) (fun r hr => by simp at hr; omega))
        have F5 := hd (F4.out.grown (grown_set w3 ⟨g4, 0, none⟩ (.string (showC W v))) (show w.heap.size + 2 ≤ g4 by omega))
        clear c1 f1 c2 f2 b4 own4 ho hs1
        obtain ⟨⟨c1, f1⟩, ⟨c2, f2⟩, -, -⟩ := F4.out
        have Hm2 : Hid ((v :: manyV H (-((l / 2 : Nat) : Int))).length = cs.length - l) := hd (by rw [List.length_cons, manyV_length]; have := Hcons.out; rwa [List.length_cons] at this)
        go_wp2_with fail
        refine (turnedMany_s W (v :: manyV H (-((l / 2 : Nat) : Int))) ((l / 2 : Nat) : Int) _ (some ⟨g4, 0, none⟩) c4 (cs.length - l) _ (by omega) Own5.out.sg hW1 hW12 Hm2.out (by omega) (by omega) (by omega) (by omega)).mono ?_
        rintro e w5 ⟨A6, c6, rfl, own6, b6⟩
        have Own6 := hd (OwnB.out.below b6)
        have F6 := hd (F5.out.below b6)
        clear c1 f1 c2 f2
        obtain ⟨⟨c1, f1⟩, ⟨c2, f2⟩, -, -⟩ := F6.out
        have Hmn2 : Hid ((eng W (manyV (v :: manyV H (-((l / 2 : Nat) : Int))) ((l / 2 : Nat) : Int))).length = cs.length - l) := hd (by rw [eng_length, manyV_length]; exact Hm2.out)
        obtain ⟨g6, o6, ho6, rfl, hc6, hf6⟩ := own6.at_ (k := 0) (by rw [Hmn2.out]; omega)
        obtain ⟨x, Hx⟩ : ∃ x, Hid (v - valF 1 H (-((l / 2 : Nat) : Int)) = x) := ⟨_, hd rfl⟩
        rw [Hx.out] at Hux
        obtain rfl : o6 = showC W x := by
          have h1 := eng_at (W := W) (forth_at v H (l / 2))
          rw [Hx.out] at h1
          exact Option.some.inj (ho6.symm.trans h1)
        obtain ⟨g', o, ho, hg', hco2, hfo2⟩ := Own6.out.at_ (k := l) Hlx.out
        simp only [Option.some.injEq, Addr.mk.injEq, and_true] at hg'
        subst hg'
        clear b6 own6 ho6 ho hco hfo
        have Own7 := hd (Own6.out.set l (showC W x))
        have F7 := hd (F6.out.grown (grown_set w5 ⟨g, l, none⟩ (.string (showC W x))) hg3)
        have Hnx : Hid ((eng W (mixV vs us (l + 1))).set l (showC W x) = eng W (mixV vs us l)) := hd (by
          rw [eng_set, mixV_back Hul.out Hux.out])
        go_wp2
        go_roundw
        case rel => exact ⟨l, by omega, by go_num, F7.out, by rw [← Hnx.out]; exact Own7.out⟩
        case measure => simp [intOf] <;> omega
      · obtain rfl : k = 0 := by omega
        have Hfu : Hid (mixV vs us 0 = us) := hd (by simp [mixV])
        obtain ⟨⟨c1, f1⟩, ⟨c2, f2⟩, -, -⟩ := F.out
        rw [Hfu.out] at Own
        have Ow := hd ((Own.out.keep_lo (grown_set wr ⟨w.heap.size + 1, 0, none⟩ (.slice (some ⟨g, 0, none⟩) cs.length c3)) (fun r hr => by simp at hr; omega)).low (show w.heap.size ≤ w.heap.size + 2 by omega))
        go_wp2
        exact bodyPost_ret (v := .tuple #[.agg #[.slice (some ⟨g, 0, none⟩) cs.length c3], .bool true]) (by simp [results, Try.results56, c2, go_sem]) rfl (RetEO.some_ Hf.out Ow.out Hml.out.symm (F.out.done _))

end Go.Proofs.Ytkmblobfamhoiaa
