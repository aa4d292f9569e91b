/- Texts: columns with blanks between them; what FormatEngine returns. -/
import Derived.Test.YtinhcdppdnmlgaaGrG
import Derived.Test.YtinhcdppdnmlgaaShelf
import Derived.Test.YtinhcdppdnmlgaaTxP
namespace Go.Proofs.Ytinhcdppdnmlgaa
open Go.RowKit
set_option maxRecDepth 4000

/-- What FormatEngine returns. -/
def fmtF (cs : List ByteArray) : ByteArray := if engV cs = true then joinB cs else ⟨#[]⟩
theorem fmtF_no {cs : List ByteArray} (h : engV cs = false) : fmtF cs = ⟨#[]⟩ := by simp [fmtF, h]
theorem fmtF_yes {cs : List ByteArray} (h : engV cs = true) : fmtF cs = joinB cs := by simp [fmtF, h]

theorem engV_sizes {cs : List ByteArray} (h : engV cs = true) : ∀ c ∈ cs, c.size ≤ 12 := fun c hc => (colV_iff.1 ((engV_iff.1 h).2 c hc).1).1.2

/-- The loop's text and its counter. -/
def TxR (cs : List ByteArray) (o i : Value) : Prop := ∃ (k : Nat) (t : ByteArray), k ≤ cs.length ∧ i = .int .i64 k ∧ o = .string t ∧ t = joinB (cs.take k)

set_option maxHeartbeats 1600000 in
theorem sFormatEngine_any (A : Option Addr) (c : Nat) (cs : List ByteArray) (w : World) (h : SS w A cs) (hs : Short cs) :
    Calls Try.prog 10 #[.agg #[.slice A cs.length c]] w fun e w' => e = .returned (.string (fmtF cs)) ∧ Below w.heap.size w w' := by
  have Hh := hd (h.alloc (.cells #[.slice A cs.length c] 27))
  have Hs := hd hs
  have C0 := hd (Cl.new w (.slice A cs.length c) 27)
  have hb0 : Below w.heap.size w (w.alloc (.cells #[.slice A cs.length c] 27)) := (Below.refl _ _).alloc (Nat.le_refl _) _
  clear h hs
  cases hv : engV cs
  · have Hv := hd hv
    have Hf := hd (fmtF_no hv)
    clear hv
    go_enter Try.func10, Try.ntmps10
    go_wp2_with fail
    refine (sEngineValid_b _ A c cs false _ rfl Hh.out Hs.out Hv.out).mono ?_
    rintro e w1 ⟨rfl, b1⟩
    have k1 := hb0.trans (b1.mono hb0.size)
    clear b1
    go_wp2
    go_ret
    exact ⟨ret_str Hf.out.symm, k1⟩
  · have Hv := hd hv
    have Hf := hd (fmtF_yes hv)
    have Hz := hd (engV_sizes hv)
    obtain ⟨hl1, hl7⟩ := (engV_iff.1 hv).1
    clear hv
    obtain ⟨b0, off0, hA, hlt0⟩ := Hh.out.nonempty (by omega)
    subst hA
    go_enter Try.func10, Try.ntmps10
    go_wp2_with fail
    refine (sEngineValid_b _ _ c cs true _ rfl Hh.out Hs.out Hv.out).mono ?_
    rintro e w1 ⟨rfl, b1⟩
    have k1 := hb0.trans (b1.mono hb0.size)
    have C1 := hd (C0.out.below b1)
    have H1 := hd (Hh.out.below b1)
    clear b1
    obtain ⟨c1, c2, -⟩ := C1.out
    have hst : TxR cs (.string ⟨#[]⟩) (.int .i64 0) := ⟨0, _, by omega, rfl, rfl, by rw [List.take_zero]; rfl⟩
    have Hst := hd hst
    clear hst
    go_wp2
    go_loop [3, 4] (fun o i => TxR cs o i) (fun _ i => cs.length - (intOf i).toNat)
    case atStart => exact Hst.out
    case round =>
      obtain ⟨k, t, hk, rfl, rfl, ht⟩ := hrel
      have Ht := hd ht
      have htz : t.size ≤ 91 := by
        have h1 := joinB_size (cs := cs.take k) (fun c hc => Hz.out c (List.mem_of_mem_take hc))
        rw [← ht, List.length_take] at h1
        omega
      clear ht
      by_cases hlt : k < cs.length
      · obtain ⟨x, hx⟩ : ∃ x, cs[k]? = some x := ⟨cs[k], List.getElem?_eq_getElem hlt⟩
        have Hx := hd hx
        have hxz : x.size ≤ 12 := Hz.out x (List.mem_of_getElem? hx)
        clear hx
        have hcx := (H1.out.cellT Hx.out).1
        by_cases hk0 : 0 < k
        · have hg : (0 : Int) < k := by omega
          have hs1 : (t ++ ⟨#[32]⟩ : ByteArray).size = t.size + 1 := ByteArray.size_append
          have hs2 : (t ++ ⟨#[32]⟩ ++ x : ByteArray).size = t.size + 1 + x.size := by rw [ByteArray.size_append, hs1]
          have Hn : Hid (TxR cs (.string (t ++ ⟨#[32]⟩ ++ x)) (.int .i64 ((k : Int) + 1))) := hd ⟨k + 1, _, by omega, by simp, rfl, by rw [joinB_succ Hx.out hk0, ← Ht.out]⟩
          go_wp2
          go_round
          case rel => exact Hn.out
          case measure => simp [intOf] <;> omega
        · obtain rfl : k = 0 := by omega
          rw [Nat.add_zero] at hcx
          have Hn : Hid (TxR cs (.string (t ++ x)) (.int .i64 1)) := hd ⟨1, _, by omega, rfl, rfl, by rw [joinB_one Hx.out, Ht.out]; rfl⟩
          have hs1 : (t ++ x : ByteArray).size = t.size + x.size := ByteArray.size_append
          go_wp2
          go_round
          case rel => exact Hn.out
          case measure => simp [intOf] <;> omega
      · have Hd : Hid (t = fmtF cs) := hd (by rw [Hf.out, Ht.out, List.take_of_length_le (by omega)])
        go_wp2
        go_ret
        exact ⟨ret_str Hd.out, k1⟩

set_option maxHeartbeats 1600000 in
theorem FormatEngine_any (A : Option Addr) (c : Nat) (cs : List ByteArray) (w : World) (h : SS w A cs) (hs : Short cs) (hc : cs.length ≤ c) :
    Calls Try.prog 11 #[.agg #[.slice A cs.length c]] w fun e w' => e = .returned (.string (fmtF cs)) ∧ Below w.heap.size w w' := by
  have Hh := hd (h.alloc (.cells #[.slice A cs.length c] 27))
  have Hs := hd hs
  have C0 := hd (Cl.new w (.slice A cs.length c) 27)
  have hb0 : Below w.heap.size w (w.alloc (.cells #[.slice A cs.length c] 27)) := (Below.refl _ _).alloc (Nat.le_refl _) _
  clear h hs
  cases hv : engV cs
  · have Hv := hd hv
    have Hf := hd (fmtF_no hv)
    clear hv
    go_enter Try.func11, Try.ntmps11
    go_wp2_with fail
    refine (EngineValid_b _ A c cs false _ rfl Hh.out Hs.out Hv.out).mono ?_
    rintro e w1 ⟨rfl, b1⟩
    have k1 := hb0.trans (b1.mono hb0.size)
    clear b1
    go_wp2
    go_ret
    exact ⟨ret_str Hf.out.symm, k1⟩
  · have Hv := hd hv
    have Hf := hd (fmtF_yes hv)
    have Hz := hd (engV_sizes hv)
    obtain ⟨hl1, hl7⟩ := (engV_iff.1 hv).1
    clear hv
    obtain ⟨b0, off0, hA, hlt0⟩ := Hh.out.nonempty (by omega)
    subst hA
    have Hj : Hid ((Lib.join (cs.map (·.data.toList)) (⟨#[32]⟩ : ByteArray).data.toList).length ≤ 140737488355328) := hd (by
      have h1 := joinB_size Hz.out
      rw [joinB, txt_size] at h1
      have h2 : (⟨#[32]⟩ : ByteArray).data.toList = [32] := rfl
      rw [h2]
      omega)
    go_enter Try.func11, Try.ntmps11
    go_wp2_with fail
    refine (EngineValid_b _ _ c cs true _ rfl Hh.out Hs.out Hv.out).mono ?_
    rintro e w1 ⟨rfl, b1⟩
    have k1 := hb0.trans (b1.mono hb0.size)
    have C1 := hd (C0.out.below b1)
    have H1 := hd (Hh.out.below b1)
    clear b1
    obtain ⟨c1, c2, -⟩ := C1.out
    go_wp2_with fail
    refine (Try.strings_Join b0 off0 c cs ⟨#[32]⟩ _ (fun j x hj => (H1.out.cellT hj).1) (H1.out.cellT (k := 0) (List.getElem?_eq_getElem hl1)).2 (by omega) hc Hj.out).mono ?_
    rintro e w2 ⟨rfl, b2⟩
    have k2 := k1.trans (b2.mono k1.size)
    clear b2
    have Hr : Hid ((⟨(Lib.join (cs.map (·.data.toList)) (⟨#[32]⟩ : ByteArray).data.toList).toArray⟩ : ByteArray) = fmtF cs) := hd (by rw [Hf.out]; rfl)
    rw [Hr.out]
    go_wp2
    go_ret
    exact ⟨rfl, k2⟩

theorem sFormatEngine_z (A : Option Addr) (c n : Nat) (cs : List ByteArray) (z : ByteArray) (w : World) (hn : cs.length = n) (h : SS w A cs) (hs : Short cs) (_ : n ≤ c) (hz : fmtF cs = z) :
    Calls Try.prog 10 #[.agg #[.slice A n c]] w fun e w' => e = .returned (.string z) ∧ Below w.heap.size w w' := by
  subst hn hz; exact sFormatEngine_any A c cs w h hs
theorem FormatEngine_z (A : Option Addr) (c n : Nat) (cs : List ByteArray) (z : ByteArray) (w : World) (hn : cs.length = n) (h : SS w A cs) (hs : Short cs) (hc : n ≤ c) (hz : fmtF cs = z) :
    Calls Try.prog 11 #[.agg #[.slice A n c]] w fun e w' => e = .returned (.string z) ∧ Below w.heap.size w w' := by
  subst hn hz; exact FormatEngine_any A c cs w h hs hc

end Go.Proofs.Ytinhcdppdnmlgaa
