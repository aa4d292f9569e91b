/- Texts: columns with blanks between them; what FormatEngine returns. -/
import Derived.Test.YtinhcdppdnmlgaaGrG
import Derived.Test.YtinhcdppdnmlgaaShelf
import Derived.Lib.Join
namespace Go.Proofs.Ytinhcdppdnmlgaa
open Go.RowKit
set_option maxRecDepth 4000

/-- The string of these bytes. -/
def txt (l : List UInt8) : ByteArray := ⟨l.toArray⟩
theorem txt_size (l : List UInt8) : (txt l).size = l.length := by simp [txt, ByteArray.size]
theorem txt_data (s : ByteArray) : txt s.data.toList = s := by simp [txt]
theorem data_txt (l : List UInt8) : (txt l).data.toList = l := by simp [txt]
theorem txt_app (a b : List UInt8) : txt a ++ txt b = txt (a ++ b) := by
  apply ByteArray.ext
  simp [txt]

/-- Texts with blanks between them. -/
def joinB (cs : List ByteArray) : ByteArray := txt (Lib.join (cs.map (·.data.toList)) [32])
theorem joinB_one {cs : List ByteArray} {x : ByteArray} (h : cs[0]? = some x) : joinB (cs.take 1) = ⟨#[]⟩ ++ x := by
  have : cs.take 1 = [x] := by
    cases cs with
    | nil => simp at h
    | cons a r => simp at h; simp [h]
  rw [this, joinB, List.map_cons, List.map_nil, Lib.join_one, txt_data]
  apply ByteArray.ext
  simp
theorem joinB_succ {cs : List ByteArray} {x : ByteArray} {k : Nat} (h : cs[k]? = some x) (hk : 1 ≤ k) : joinB (cs.take (k + 1)) = joinB (cs.take k) ++ ⟨#[32]⟩ ++ x := by
  cases cs with
  | nil => simp at h
  | cons a r =>
    obtain ⟨j, rfl⟩ : ∃ j, k = j + 1 := ⟨k - 1, by omega⟩
    have h2 : r[j]? = some x := by simpa using h
    have h3 : (r.map (·.data.toList))[j]? = some x.data.toList := by rw [List.getElem?_map, h2]; rfl
    have e : ∀ i, joinB ((a :: r).take (i + 1)) = txt (a.data.toList ++ Lib.joinTail [32] ((r.map (·.data.toList)).take i)) := by
      intro i
      rw [joinB, List.take_succ_cons, List.map_cons, Lib.join_cons, List.map_take]
    have e1 : (⟨#[32]⟩ : ByteArray) = txt [32] := rfl
    rw [e, e, Lib.joinTail_take_succ [32] _ j _ h3, e1, txt_app]
    rw (occs := .pos [2]) [← txt_data x]
    rw [txt_app]
    simp [List.append_assoc]
theorem joinB_size {cs : List ByteArray} (h : ∀ c ∈ cs, c.size ≤ 12) : (joinB cs).size ≤ 13 * cs.length := by
  rw [joinB, txt_size]
  cases cs with
  | nil => simp [Lib.join_nil]
  | cons a r =>
    rw [List.map_cons, Lib.join_length]
    have hl : ∀ l : List ByteArray, (∀ c ∈ l, c.size ≤ 12) → Lib.lens (l.map (·.data.toList)) ≤ 12 * l.length := by
      intro l
      induction l with
      | nil => simp [Lib.lens]
      | cons b t ih =>
        intro h
        have h1 := ih (fun c hc => h c (List.mem_cons_of_mem _ hc))
        have h2 := h b (List.mem_cons_self ..)
        simp only [Lib.lens, List.map_cons, List.sum_cons, List.length_cons] at h1 ⊢
        have h3 : b.data.toList.length = b.size := by rw [Array.length_toList]; rfl
        omega
    have h1 := hl (a :: r) h
    simp only [List.map_cons, List.length_cons, List.length_map, List.length_nil] at h1 ⊢
    omega

/-- What FormatEngine returns. -/
def fmtF (cs : List ByteArray) : ByteArray := if engV cs = true then joinB cs else ⟨#[]⟩
theorem fmtF_no {cs : List ByteArray} (h : engV cs = false) : fmtF cs = ⟨#[]⟩ := by simp [fmtF, h]
theorem fmtF_yes {cs : List ByteArray} (h : engV cs = true) : fmtF cs = joinB cs := by simp [fmtF, h]

theorem SG.cellT {α : Type} {f : α → Value} {w : World} {b off : Nat} {xs : List α} {k : Nat} {x : α} (h : SG f w (some ⟨b, off, none⟩) xs) (hk : xs[k]? = some x) :
    w.cell? ⟨b, off + k, none⟩ = some (f x) ∧ b < w.heap.size := by
  obtain ⟨b', off', e, hb, hc⟩ := h.2 k (f x) (by rw [List.getElem?_map, hk]; rfl)
  simp only [Option.some.injEq, Addr.mk.injEq, and_true] at e
  obtain ⟨rfl, rfl⟩ := e
  exact ⟨hc, hb⟩

theorem engV_sizes {cs : List ByteArray} (h : engV cs = true) : ∀ c ∈ cs, c.size ≤ 12 := fun c hc => (colV_iff.1 ((engV_iff.1 h).2 c hc).1).1.2

theorem ret_str {s t : ByteArray} (h : s = t) : Ending.returned (.string s) = .returned (.string t) := by rw [h]

/-- The loop's text and its counter. -/
def TxR (cs : List ByteArray) (o i : Value) : Prop := ∃ (k : Nat) (t : ByteArray), k ≤ cs.length ∧ i = .int .i64 k ∧ o = .string t ∧ t = joinB (cs.take k)

set_option maxHeartbeats 1600000 in
theorem sFormatEngine_any (A : Option Addr) (c : Nat) (cs : List ByteArray) (w : World) (h : SS w A cs) (hs : Short cs) :
    Calls Try.prog 10 #[.agg #[.slice A cs.length c]] w fun e w' => e = .returned (.string (fmtF cs)) ∧ Below w.heap.size w w' := by
  have Hh := hd (h.alloc (.cells #[.slice A cs.length c] 27))
  have Hs := hd hs
  have C0 := hd (Cl.new w (.slice A cs.length c) 27)
  have hb0 : Below w.heap.size w (w.alloc (.cells #[.slice A cs.length c] 27)) := (Below.refl _ _).alloc (Nat.le_refl _) _
  clear h hs
  cases hv : engV cs
  · have Hv := hd hv
    have Hf := hd (fmtF_no hv)
    clear hv
    go_enter Try.func10, Try.ntmps10
    go_wp2_with fail
    refine (sEngineValid_b _ A c cs false _ rfl Hh.out Hs.out Hv.out).mono ?_
    rintro e w1 ⟨rfl, b1⟩
    have k1 := hb0.trans (b1.mono hb0.size)
    clear b1
    go_wp2
    go_ret
    exact ⟨ret_str Hf.out.symm, k1⟩
  · have Hv := hd hv
    have Hf := hd (fmtF_yes hv)
    have Hz := hd (engV_sizes hv)
    obtain ⟨hl1, hl7⟩ := (engV_iff.1 hv).1
    clear hv
    obtain ⟨b0, off0, hA, hlt0⟩ := Hh.out.nonempty (by omega)
    subst hA
    go_enter Try.func10, Try.ntmps10
    go_wp2_with fail
    refine (sEngineValid_b _ _ c cs true _ rfl Hh.out Hs.out Hv.out).mono ?_
    rintro e w1 ⟨rfl, b1⟩
    have k1 := hb0.trans (b1.mono hb0.size)
    have C1 := hd (C0.out.below b1)
    have H1 := hd (Hh.out.below b1)
    clear b1
    obtain ⟨c1, c2, -⟩ := C1.out
    have hst : TxR cs (.string ⟨#[]⟩) (.int .i64 0) := ⟨0, _, by omega, rfl, rfl, by rw [List.take_zero]; rfl⟩
    have Hst := hd hst
    clear hst
    go_wp2
    go_loop [3, 4] (fun o i => TxR cs o i) (fun _ i => cs.length - (intOf i).toNat)
    case atStart => exact Hst.out
    case round =>
      obtain ⟨k, t, hk, rfl, rfl, ht⟩ := hrel
      have Ht := hd ht
      have htz : t.size ≤ 91 := by
        have h1 := joinB_size (cs := cs.take k) (fun c hc => Hz.out c (List.mem_of_mem_take hc))
        rw [← ht, List.length_take] at h1
        omega
      clear ht
      by_cases hlt : k < cs.length
      · obtain ⟨x, hx⟩ : ∃ x, cs[k]? = some x := ⟨cs[k], List.getElem?_eq_getElem hlt⟩
        have Hx := hd hx
        have hxz : x.size ≤ 12 := Hz.out x (List.mem_of_getElem? hx)
        clear hx
        have hcx := (H1.out.cellT Hx.out).1
        by_cases hk0 : 0 < k
        · have hg : (0 : Int) < k := by omega
          have hs1 : (t ++ ⟨#[32]⟩ : ByteArray).size = t.size + 1 := ByteArray.size_append
          have hs2 : (t ++ ⟨#[32]⟩ ++ x : ByteArray).size = t.size + 1 + x.size := by rw [ByteArray.size_append, hs1]
          have Hn : Hid (TxR cs (.string (t ++ ⟨#[32]⟩ ++ x)) (.int .i64 ((k : Int) + 1))) := hd ⟨k + 1, _, by omega, by simp, rfl, by rw [joinB_succ Hx.out hk0, ← Ht.out]⟩
          go_wp2
          go_round
          case rel => exact Hn.out
          case measure => simp [intOf] <;> omega
        · obtain rfl : k = 0 := by omega
          rw [Nat.add_zero] at hcx
          have Hn : Hid (TxR cs (.string (t ++ x)) (.int .i64 1)) := hd ⟨1, _, by omega, rfl, rfl, by rw [joinB_one Hx.out, Ht.out]; rfl⟩
          have hs1 : (t ++ x : ByteArray).size = t.size + x.size := ByteArray.size_append
          go_wp2
          go_round
          case rel => exact Hn.out
          case measure => simp [intOf] <;> omega
      · have Hd : Hid (t = fmtF cs) := hd (by rw [Hf.out, Ht.out, List.take_of_length_le (by omega)])
        go_wp2
        go_ret
        exact ⟨ret_str Hd.out, k1⟩

set_option maxHeartbeats 1600000 in
theorem FormatEngine_any (A : Option Addr) (c : Nat) (cs : List ByteArray) (w : World) (h : SS w A cs) (hs : Short cs) (hc : cs.length ≤ c) :
    Calls Try.prog 11 #[.agg #[.slice A cs.length c]] w fun e w' => e = .returned (.string (fmtF cs)) ∧ Below w.heap.size w w' := by
  have Hh := hd (h.alloc (.cells #[.slice A cs.length c] 27))
  have Hs := hd hs
  have C0 := hd (Cl.new w (.slice A cs.length c) 27)
  have hb0 : Below w.heap.size w (w.alloc (.cells #[.slice A cs.length c] 27)) := (Below.refl _ _).alloc (Nat.le_refl _) _
  clear h hs
  cases hv : engV cs
  · have Hv := hd hv
    have Hf := hd (fmtF_no hv)
    clear hv
    go_enter Try.func11, Try.ntmps11
    go_wp2_with fail
    refine (EngineValid_b _ A c cs false _ rfl Hh.out Hs.out Hv.out).mono ?_
    rintro e w1 ⟨rfl, b1⟩
    have k1 := hb0.trans (b1.mono hb0.size)
    clear b1
    go_wp2
    go_ret
    exact ⟨ret_str Hf.out.symm, k1⟩
  · have Hv := hd hv
    have Hf := hd (fmtF_yes hv)
    have Hz := hd (engV_sizes hv)
    obtain ⟨hl1, hl7⟩ := (engV_iff.1 hv).1
    clear hv
    obtain ⟨b0, off0, hA, hlt0⟩ := Hh.out.nonempty (by omega)
    subst hA
    have Hj : Hid ((Lib.join (cs.map (·.data.toList)) (⟨#[32]⟩ : ByteArray).data.toList).length ≤ 140737488355328) := hd (by
      have h1 := joinB_size Hz.out
      rw [joinB, txt_size] at h1
      have h2 : (⟨#[32]⟩ : ByteArray).data.toList = [32] := rfl
      rw [h2]
      omega)
    go_enter Try.func11, Try.ntmps11
    go_wp2_with fail
    refine (EngineValid_b _ _ c cs true _ rfl Hh.out Hs.out Hv.out).mono ?_
    rintro e w1 ⟨rfl, b1⟩
    have k1 := hb0.trans (b1.mono hb0.size)
    have C1 := hd (C0.out.below b1)
    have H1 := hd (Hh.out.below b1)
    clear b1
    obtain ⟨c1, c2, -⟩ := C1.out
    go_wp2_with fail
    refine (Try.strings_Join b0 off0 c cs ⟨#[32]⟩ _ (fun j x hj => (H1.out.cellT hj).1) (H1.out.cellT (k := 0) (List.getElem?_eq_getElem hl1)).2 (by omega) hc Hj.out).mono ?_
    rintro e w2 ⟨rfl, b2⟩
    have k2 := k1.trans (b2.mono k1.size)
    clear b2
    have Hr : Hid ((⟨(Lib.join (cs.map (·.data.toList)) (⟨#[32]⟩ : ByteArray).data.toList).toArray⟩ : ByteArray) = fmtF cs) := hd (by rw [Hf.out]; rfl)
    rw [Hr.out]
    go_wp2
    go_ret
    exact ⟨rfl, k2⟩

theorem sFormatEngine_z (A : Option Addr) (c n : Nat) (cs : List ByteArray) (z : ByteArray) (w : World) (hn : cs.length = n) (h : SS w A cs) (hs : Short cs) (_ : n ≤ c) (hz : fmtF cs = z) :
    Calls Try.prog 10 #[.agg #[.slice A n c]] w fun e w' => e = .returned (.string z) ∧ Below w.heap.size w w' := by
  subst hn hz; exact sFormatEngine_any A c cs w h hs
theorem FormatEngine_z (A : Option Addr) (c n : Nat) (cs : List ByteArray) (z : ByteArray) (w : World) (hn : cs.length = n) (h : SS w A cs) (hs : Short cs) (hc : n ≤ c) (hz : fmtF cs = z) :
    Calls Try.prog 11 #[.agg #[.slice A n c]] w fun e w' => e = .returned (.string z) ∧ Below w.heap.size w w' := by
  subst hn hz; exact FormatEngine_any A c cs w h hs hc

end Go.Proofs.Ytinhcdppdnmlgaa
