/- Parsing an engine, on both sides. -/
import Derived.Test.YtinhcdppdnmlgaaDoorTxD
import Derived.Test.YtinhcdppdnmlgaaDoorTxA
import Derived.Test.YtinhcdppdnmlgaaDoorGrE
namespace Go.Proofs.YtinhcdppdnmlgaaDoor
open Go.RowKit
set_option maxRecDepth 4000

/-- What ParseEngine returns. -/
def cutE (s : ByteArray) : Option (List ByteArray) := if engV (cutB s) = true then some (cutB s) else none
theorem cutE_no {s : ByteArray} (h : engV (cutB s) = false) : cutE s = none := by simp [cutE, h]
theorem cutE_yes {s : ByteArray} (h : engV (cutB s) = true) : cutE s = some (cutB s) := by simp [cutE, h]
theorem cutE_length {s : ByteArray} {z : List ByteArray} (h : (cutE s).getD [] = z) : z.length ≤ 1048576 := by
  unfold cutE at h
  split at h
  · rename_i hv
    have := (engV_iff.1 hv).1
    simp at h; subst h; omega
  · simp at h; subst h; simp
theorem joinB_cut (s : ByteArray) : joinB (cutB s) = s := by rw [joinB, cutB_data, join_cut, txt_data]
theorem cutB_short {s : ByteArray} (h : s.size ≤ 1048576) : Short (cutB s) := fun c hc => Nat.le_trans (cutB_small s c hc) h
theorem cutV_pos {s : ByteArray} (h : engV (cutB s) = true) : 1 ≤ s.size := by
  rcases Nat.eq_zero_or_pos s.size with h0 | h0
  · exfalso
    have hl : s.data.toList = [] := List.eq_nil_of_length_eq_zero (by rw [Array.length_toList]; exact h0)
    have hc : cutB s = [txt []] := by rw [cutB, hl]; rfl
    rw [hc] at h
    have := (colV_iff.1 ((engV_iff.1 h).2 (txt []) (by simp)).1).1.1
    rw [txt_size] at this
    simp at this
  · exact h0

/-- Go's bound of a search lies somewhere in its place. -/
def Mx (w : World) : Prop := ∃ m, w.cell? ⟨0, 0, none⟩ = some (.int .i64 m)
theorem Mx.below {w w' : World} (h : Mx w) (hb : Below w.heap.size w w') : Mx w' := by
  obtain ⟨m, hm⟩ := h
  exact ⟨m, by rw [hb.cell (p := ⟨0, 0, none⟩) (World.block_lt_of_cell? w _ hm)]; exact hm⟩

theorem Clone_b (s : ByteArray) (w : World) (hs : s.size ≤ 1048576) :
    Calls Tryd.prog 39 #[.string s] w fun e w' => e = .returned (.string s) ∧ Below w.heap.size w w' := by
  go_enter Tryd.func39, Tryd.ntmps39
  go_wp2_with fail
  refine (Tryd.stringslite_Clone s _ (by omega)).mono ?_
  rintro e w1 ⟨rfl, b1⟩
  go_wp2
  go_ret
  exact ⟨rfl, b1⟩

theorem Split_b (s : ByteArray) (w : World) (hs : s.size ≤ 1048576) (hm : Mx w) :
    Calls Tryd.prog 38 #[.string s, .string ⟨#[32]⟩] w fun e w' => RetG Value.string 9 w.heap.size w (cutB s) e w' := by
  obtain ⟨m, hm⟩ := hm
  refine (Tryd.strings_Split s ⟨#[32]⟩ m w (by omega) hm (by decide)).mono ?_
  rintro e w' ⟨rfl, rfl⟩
  rw [countB_cut, splitB_cut]
  have hl := (cutB_length s).2
  exact ⟨_, _, rfl, OwnG.of_row (World.ownsRow_lit w ((cutB s).map Value.string).toArray _ (Nat.le_refl _) (by unfold maxLen; omega) (by simp)) rfl (by omega), (Below.refl _ _).alloc (Nat.le_refl _) _⟩

set_option maxHeartbeats 1600000 in
theorem sParseEngine_z (s : ByteArray) (z : List ByteArray) (ok : Bool) (w : World) (hs : s.size ≤ 1048576) (_ : Mx w) (hz : (cutE s).getD [] = z ∧ (cutE s).isSome = ok) :
    Calls Tryd.prog 19 #[.string s] w fun e w' => RetEB 9 w.heap.size w z ok e w' := by
  obtain ⟨rfl, rfl⟩ := hz
  have C0 := hd ((Cs.nil w).new (.slice none 0 0) 37 rfl)
  have Hs := hd (cutB_short hs)
  cases hv : engV (cutB s)
  · have Hf := hd (cutE_no hv)
    have Hm := hd (fmtF_no hv)
    clear hv
    go_enter Tryd.func19, Tryd.ntmps19
    go_wp2_with fail
    refine (l9Cut_any s _ hs).mono ?_
    rintro e w1 ⟨A, c, rfl, own, b1⟩
    have C1 := hd (C0.out.below b1)
    have Own := hd own
    clear own b1
    go_wp2_with fail
    refine (sFormatEngine_z A c _ (cutB s) ⟨#[]⟩ _ rfl (Own.out.alloc _).sg Hs.out Own.out.cap Hm.out).mono ?_
    rintro e w2 ⟨rfl, b2⟩
    have C3 := hd ((C1.out.new (.slice A (cutB s).length c) 37 rfl).below b2)
    clear b2
    obtain ⟨⟨c1, f1, -⟩, ⟨c2, f2, -⟩⟩ := C3.out.at2
    have Bf := hd (C3.out.done (g := w.heap.size) (Nat.le_refl _) (.slice none 0 0))
    have Cf := hd (C3.out.tail.put (by simp) (.slice none 0 0))
    obtain ⟨c3, -, -⟩ := Cf.out.at1
    go_wp2
    all_goals exact bodyPost_ret (v := .tuple #[.agg #[.slice none 0 0], .bool false]) (by simp [results, Tryd.results19, c3, go_sem]) rfl (RetEO.none_ Hf.out Bf.out)
  · have Hf := hd (cutE_yes hv)
    have hne : s.toList.isEmpty = false := by
      have h1 := cutV_pos hv
      rw [ByteArray.toList_eq]
      cases hl : s.data.toList with
      | nil => exfalso; have h2 : s.data.toList.length = s.size := by rw [Array.length_toList]; rfl
               rw [hl] at h2; simp at h2; omega
      | cons a r => rfl
    have Hm : Hid (fmtF (cutB s) = s) := hd (by rw [fmtF_yes hv, joinB_cut])
    have hs1 := cutV_pos hv
    clear hv
    go_enter Tryd.func19, Tryd.ntmps19
    go_wp2_with fail
    refine (l9Cut_any s _ hs).mono ?_
    rintro e w1 ⟨A, c, rfl, own, b1⟩
    have C1 := hd (C0.out.below b1)
    have Own := hd own
    clear own b1
    go_wp2_with fail
    refine (sFormatEngine_z A c _ (cutB s) s _ rfl (Own.out.alloc _).sg Hs.out Own.out.cap Hm.out).mono ?_
    rintro e w2 ⟨rfl, b2⟩
    have C3 := hd ((C1.out.new (.slice A (cutB s).length c) 37 rfl).below b2)
    have Own2 := hd ((Own.out.alloc (.cells #[.slice A (cutB s).length c] 37)).below b2)
    clear b2
    obtain ⟨⟨c1, f1, -⟩, ⟨c2, f2, -⟩⟩ := C3.out.at2
    have Bf := hd (C3.out.done (g := w.heap.size) (Nat.le_refl _) (.slice A (cutB s).length c))
    have Cf := hd (C3.out.tail.put (by simp) (.slice A (cutB s).length c))
    obtain ⟨c3, -, -⟩ := Cf.out.at1
    have Ow := hd ((Own2.out.keep_lo (grown_set w2 ⟨w.heap.size, 0, none⟩ (.slice A (cutB s).length c)) (fun r hr => by simp at hr; simp; omega)).low (B' := w.heap.size) (by simp))
    go_wp2
    exact bodyPost_ret (v := .tuple #[.agg #[.slice A (cutB s).length c], .bool true]) (by simp [results, Tryd.results19, c3, go_sem]) rfl (RetEO.some_ Hf.out Ow.out rfl Bf.out)

set_option maxHeartbeats 1600000 in
theorem ParseEngine_z (s : ByteArray) (z : List ByteArray) (ok : Bool) (w : World) (hs : s.size ≤ 1048576) (hm : Mx w) (hz : (cutE s).getD [] = z ∧ (cutE s).isSome = ok) :
    Calls Tryd.prog 20 #[.string s] w fun e w' => RetEB 9 w.heap.size w z ok e w' := by
  obtain ⟨rfl, rfl⟩ := hz
  have C0 := hd ((Cs.nil w).new (.slice none 0 0) 37 rfl)
  have Hs := hd (cutB_short hs)
  have HM := hd (hm.below ((Below.refl _ _).alloc (Nat.le_refl _) (.cells #[.slice none 0 0] 37)))
  clear hm
  cases hv : engV (cutB s)
  · have Hf := hd (cutE_no hv)
    have Hv := hd hv
    clear hv
    go_enter Tryd.func20, Tryd.ntmps20
    go_wp2_with fail
    refine (Clone_b s _ hs).mono ?_
    rintro e w0 ⟨rfl, b0⟩
    have CA := hd (C0.out.below b0)
    have HM1 := hd (HM.out.below b0)
    clear b0
    go_wp2_with fail
    refine (Split_b s _ hs HM1.out).mono ?_
    rintro e w1 ⟨A, c, rfl, own, b1⟩
    have C1 := hd (CA.out.below b1)
    have Own := hd own
    clear own b1
    go_wp2_with fail
    refine (EngineValid_b _ A c (cutB s) false _ rfl (Own.out.alloc _).sg Hs.out Hv.out).mono ?_
    rintro e w2 ⟨rfl, b2⟩
    have C3 := hd ((C1.out.new (.slice A (cutB s).length c) 37 rfl).below b2)
    clear b2
    obtain ⟨⟨c1, f1, -⟩, ⟨c2, f2, -⟩⟩ := C3.out.at2
    have Bf := hd (C3.out.done (g := w.heap.size) (Nat.le_refl _) (.slice none 0 0))
    have Cf := hd (C3.out.tail.put (by simp) (.slice none 0 0))
    obtain ⟨c3, -, -⟩ := Cf.out.at1
    go_wp2
    exact bodyPost_ret (v := .tuple #[.agg #[.slice none 0 0], .bool false]) (by simp [results, Tryd.results20, c3, go_sem]) rfl (RetEO.none_ Hf.out Bf.out)
  · have Hf := hd (cutE_yes hv)
    have Hv := hd hv
    clear hv
    go_enter Tryd.func20, Tryd.ntmps20
    go_wp2_with fail
    refine (Clone_b s _ hs).mono ?_
    rintro e w0 ⟨rfl, b0⟩
    have CA := hd (C0.out.below b0)
    have HM1 := hd (HM.out.below b0)
    have hz0 := b0.size
    clear b0
    go_wp2_with fail
    refine (Split_b s _ hs HM1.out).mono ?_
    rintro e w1 ⟨A, c, rfl, own, b1⟩
    have C1 := hd (CA.out.below b1)
    have Own := hd own
    clear own b1
    go_wp2_with fail
    refine (EngineValid_b _ A c (cutB s) true _ rfl (Own.out.alloc _).sg Hs.out Hv.out).mono ?_
    rintro e w2 ⟨rfl, b2⟩
    have C3 := hd ((C1.out.new (.slice A (cutB s).length c) 37 rfl).below b2)
    have Own2 := hd ((Own.out.alloc (.cells #[.slice A (cutB s).length c] 37)).below b2)
    clear b2
    obtain ⟨⟨c1, f1, -⟩, ⟨c2, f2, -⟩⟩ := C3.out.at2
    have Bf := hd (C3.out.done (g := w.heap.size) (Nat.le_refl _) (.slice A (cutB s).length c))
    have Cf := hd (C3.out.tail.put (by simp) (.slice A (cutB s).length c))
    obtain ⟨c3, -, -⟩ := Cf.out.at1
    have hz1 : w.heap.size < w0.heap.size := by simp at hz0; omega
    have Ow := hd ((Own2.out.keep_lo (grown_set w2 ⟨w.heap.size, 0, none⟩ (.slice A (cutB s).length c)) (fun r hr => by simp at hr; omega)).low (Nat.le_of_lt hz1))
    go_wp2
    exact bodyPost_ret (v := .tuple #[.agg #[.slice A (cutB s).length c], .bool true]) (by simp [results, Tryd.results20, c3, go_sem]) rfl (RetEO.some_ Hf.out Ow.out rfl Bf.out)

end Go.Proofs.YtinhcdppdnmlgaaDoor
