/- The program's text of a polynomial: joinNumbers, FormatPoly. -/
import Derived.Test.YtinhcdppdnmlgaaDoorTxB
import Derived.Test.YtinhcdppdnmlgaaDoorGrD
import Derived.Test.YtinhcdppdnmlgaaDoorGrB
import Derived.Sort.Grow
namespace Go.Proofs.YtinhcdppdnmlgaaDoor
open Go.RowKit
set_option maxRecDepth 4000

theorem below_dn {B : Nat} {w w' : World} (h : Below B w w') (n : Nat) : Below B w (w'.drewN n) := ⟨h.os, h.tape, h.output, h.size, h.block⟩
theorem below_grow (w : World) (k : Nat) (os : Array Obj) : Below w.heap.size w (Go.Sort.grow (w.drewN k) os) := by
  have h := below_dn (Below.refl w.heap.size w) k
  refine ⟨h.os, h.tape, h.output, ?_, fun j hj => ?_⟩
  · show w.heap.size ≤ ((w.drewN k).heap ++ os).size
    rw [Array.size_append]; exact Nat.le_add_right _ _
  · show ((w.drewN k).heap ++ os)[j]? = w.heap[j]?
    rw [Array.getElem?_append_left (by exact hj)]; rfl

/-- Go's table of powers of ten lies as it was laid. -/
def Tab (w : World) : Prop := Lib.TabIs Tryd.prog w "internal/strconv.uint64pow10" .u64 Lib.pow10Tab
theorem Tab.below {w w' : World} (h : Tab w) (hb : Below w.heap.size w w') : Tab w' := by
  unfold Tab Lib.TabIs World.var? at h ⊢
  cases hg : Tryd.prog.globalNamed "internal/strconv.uint64pow10" with
  | none => rw [hg] at h; simp at h
  | some g =>
    rw [hg] at h
    simp only [Option.bind_some] at h ⊢
    have hlt : g < w.heap.size := by
      rcases Nat.lt_or_ge g w.heap.size with h' | h'
      · exact h'
      · rw [Array.getElem?_eq_none h'] at h; cases h
    rw [hb.block g hlt]
    exact h

theorem Itoa_b (n : Int) (w : World) (ht : Tab w) (h0 : -9223372036854775808 ≤ n) (h1 : n ≤ 9223372036854775807) :
    Calls Tryd.prog 46 #[.int .i64 n] w fun e w' => e = .returned (.string (numB n)) ∧ Below w.heap.size w w' := by
  refine (Tryd.strconv_Itoa n h0 h1 w ht).mono ?_
  rintro e w' ⟨rfl, k, os, rfl⟩
  exact ⟨rfl, below_grow w k os⟩

set_option maxHeartbeats 1600000 in
theorem joinNumbers_any (A : Option Addr) (c n : Nat) (p : List Int) (w : World) (hn : p.length = n) (h : SG (Value.int .i64) w A p) (hl0 : 0 < n) (hl : n ≤ 1000) (hm : Mid p) (ht : Tab w) :
    Calls Tryd.prog 30 #[.slice A n c] w fun e w' => e = .returned (.string (numsB p)) ∧ Below w.heap.size w w' := by
  obtain ⟨i0, hi, hz0, hz1, hz2⟩ := info_parts infoS
  have Hn := hd hn
  have Hh := hd h
  have Hm := hd hm
  have Ht := hd ht
  have Hj : Hid ((Lib.join ((p.map numB).map (·.data.toList)) (⟨#[32]⟩ : ByteArray).data.toList).length ≤ 140737488355328) := hd (by
    have h1 := numsB_size hm
    rw [numsB, joinB, txt_size] at h1
    have h2 : (⟨#[32]⟩ : ByteArray).data.toList = [32] := rfl
    rw [h2]
    omega)
  obtain ⟨b0, off0, hA, hlt0⟩ := h.nonempty (by omega)
  subst hA
  clear hn h hm ht
  go_enter Tryd.func30, Tryd.ntmps30
  go_wp2_with (at_make; refine wpList_make_full _ rfl _ _ 35 rfl w.heap.size 9 i0 (.string ByteArray.empty) 1 Tryd.underlying35 hi hz0 hz1 .i64 .i64 _ _ n rfl rfl rfl rfl (by rw [hz2]; omega) (by unfold maxLen; omega) (Nat.le_refl _) ?_; intro w1 hown hgrow)
  have Own0 : Hid (OwnS 9 w.heap.size w1 (some ⟨w.heap.size, 0, none⟩) n (List.replicate n ByteArray.empty)) := hd (OwnG.made ByteArray.empty rfl hown (by omega))
  have B0 := hd ((Below.refl w.heap.size w).grown hgrow (Nat.le_refl _) (by simp))
  clear hown hgrow
  go_loopw [11] (fun i wr => ∃ (k : Nat) (xs : List ByteArray), k ≤ n ∧ i = .int .i64 k ∧ xs.length = n ∧ xs.take k = (p.map numB).take k ∧ OwnS 9 w.heap.size wr (some ⟨w.heap.size, 0, none⟩) n xs ∧ Below w.heap.size w wr)
    (fun i _ => n - (intOf i).toNat)
  case atStart => exact ⟨0, List.replicate n ByteArray.empty, by omega, rfl, by simp, rfl, Own0.out, B0.out⟩
  case round =>
    clear Own0 B0
    obtain ⟨k, xs, hk, rfl, hxl, hxt, own, bw⟩ := hrel
    have Hxl := hd hxl
    have Hxt := hd hxt
    have Own := hd own
    have Bw := hd bw
    clear hxl hxt own bw
    by_cases hlt : k < n
    · obtain ⟨x, hx⟩ : ∃ x, p[k]? = some x := ⟨p[k]'(by rw [Hn.out]; exact hlt), List.getElem?_eq_getElem _⟩
      have Hx := hd hx
      obtain ⟨hx1, hx2⟩ := Hm.out x (List.mem_of_getElem? hx)
      clear hx
      have hcx := ((Hh.out.below Bw.out).cellT Hx.out).1
      have HT := hd (Ht.out.below Bw.out)
      go_wp2_with fail
      refine (Itoa_b x _ HT.out (by omega) (by omega)).mono ?_
      rintro e w4 ⟨rfl, b4⟩
      have Own4 := hd (Own.out.below b4)
      have Bw4 := hd (Bw.out.trans (b4.mono Bw.out.size))
      clear b4 hcx
      obtain ⟨g', o, ho, hg', hco2, hfo⟩ := Own4.out.at_ (k := k) (by rw [Hxl.out]; exact hlt)
      simp only [Option.some.injEq, Addr.mk.injEq, and_true] at hg'
      subst hg'
      have Hn1 : Hid ((xs.set k (numB x)).take (k + 1) = (p.map numB).take (k + 1)) := hd (take_set_succ (by rw [Hxl.out]; exact hlt) Hxt.out (by rw [List.getElem?_map, Hx.out]; rfl))
      have Hl1 : Hid ((xs.set k (numB x)).length = n) := hd (by rw [List.length_set]; exact Hxl.out)
      have Own5 := hd (Own4.out.set k (numB x))
      have Bw5 := hd (Bw4.out.setCell (p := ⟨w.heap.size, k, none⟩) (Nat.le_refl _) (.string (numB x)))
      clear ho
      go_wp2
      go_roundw
      case rel => exact ⟨k + 1, _, by omega, by go_num, Hl1.out, Hn1.out, Own5.out, Bw5.out⟩
      case measure => simp [intOf] <;> omega
    · obtain rfl : k = n := by omega
      have Hxs : Hid (xs = p.map numB) := hd (by
        have h1 := Hxt.out
        rw [List.take_of_length_le (by rw [Hxl.out]; exact Nat.le_refl _), List.take_of_length_le (by rw [List.length_map, Hn.out]; exact Nat.le_refl _)] at h1
        exact h1)
      have Hc : Hid (∀ (j : Nat) x, (p.map numB)[j]? = some x → wr.cell? ⟨w.heap.size, 0 + j, none⟩ = some (.string x)) := hd (fun j x hj => (Own.out.sg.cellT (by rw [Hxs.out]; exact hj)).1)
      have Hml : Hid ((p.map numB).length = k) := hd (by rw [List.length_map, Hn.out])
      have HJ := hd (Tryd.strings_Join w.heap.size 0 k (p.map numB) ⟨#[32]⟩ wr Hc.out (by have := Own.out.addr (by rw [Hxl.out]; exact hl0); obtain ⟨g, hg, _, h3⟩ := this; simp only [Option.some.injEq, Addr.mk.injEq, and_true] at hg; rw [hg]; exact h3) (by rw [Hml.out]; omega) (by rw [Hml.out]; exact Nat.le_refl _) Hj.out)
      rw [Hml.out] at HJ
      have Hr : Hid ((⟨(Lib.join ((p.map numB).map (·.data.toList)) (⟨#[32]⟩ : ByteArray).data.toList).toArray⟩ : ByteArray) = numsB p) := hd rfl
      rw [Hr.out] at HJ
      go_wp2_with fail
      refine HJ.out.mono ?_
      rintro e w5 ⟨rfl, b5⟩
      have B5 := Bw.out.trans (b5.mono Bw.out.size)
      clear b5
      go_wp2
      go_ret
      exact ⟨rfl, B5⟩

theorem Mid.of {p : List Int} (h : validP p = true) : Mid p := fun x hx => by
  have := (validP_iff.1 h).2.2 x hx
  omega

set_option maxHeartbeats 800000 in
theorem FormatPoly_z (A : Option Addr) (c n : Nat) (p : List Int) (z : ByteArray) (w : World) (hn : p.length = n) (h : SG (Value.int .i64) w A p) (ht : Tab w) (hz : fmtP p = z) :
    Calls Tryd.prog 13 #[.slice A n c] w fun e w' => e = .returned (.string z) ∧ Below w.heap.size w w' := by
  subst hn hz
  have Hh := hd h
  have Ht := hd ht
  have HP := hd (PolyValid_any A c p w h)
  clear h ht
  cases hv : validP p
  · have Hf := hd (fmtP_no hv)
    rw [hv] at HP
    clear hv
    go_enter Tryd.func13, Tryd.ntmps13
    go_wp2_with fail
    refine HP.out.mono ?_
    rintro e w' ⟨rfl, rfl⟩
    go_wp2
    go_ret
    exact ⟨ret_str Hf.out.symm, Below.refl _ _⟩
  · have Hf := hd (fmtP_yes hv)
    have Hm := hd (Mid.of hv)
    obtain ⟨hl1, hl7, -⟩ := validP_iff.1 hv
    rw [hv] at HP
    clear hv
    go_enter Tryd.func13, Tryd.ntmps13
    go_wp2_with fail
    refine HP.out.mono ?_
    rintro e w' ⟨rfl, rfl⟩
    go_wp2_with fail
    refine (joinNumbers_any A c _ p w rfl Hh.out hl1 (by omega) Hm.out Ht.out).mono ?_
    rintro e w1 ⟨rfl, b1⟩
    go_wp2
    go_ret
    exact ⟨ret_str Hf.out.symm, b1⟩

set_option maxHeartbeats 800000 in
theorem sFormatPoly_z (A : Option Addr) (c n : Nat) (p : List Int) (z : ByteArray) (w : World) (hn : p.length = n) (h : SG (Value.int .i64) w A p) (_ : Tab w) (hz : fmtP p = z) :
    Calls Tryd.prog 14 #[.slice A n c] w fun e w' => e = .returned (.string z) ∧ Below w.heap.size w w' := by
  subst hn hz
  have Hh := hd h
  have HP := hd (sPolyValid_any A c p w h)
  clear h
  cases hv : validP p
  · have Hf := hd (fmtP_no hv)
    rw [hv] at HP
    clear hv
    go_enter Tryd.func14, Tryd.ntmps14
    go_wp2_with fail
    refine HP.out.mono ?_
    rintro e w' ⟨rfl, rfl⟩
    go_wp2
    go_ret
    exact ⟨ret_str Hf.out.symm, Below.refl _ _⟩
  · have Hf := hd (fmtP_yes hv)
    have Hm := hd (Mid.of hv)
    obtain ⟨hl1, hl7, -⟩ := validP_iff.1 hv
    rw [hv] at HP
    clear hv
    go_enter Tryd.func14, Tryd.ntmps14
    go_wp2_with fail
    refine HP.out.mono ?_
    rintro e w' ⟨rfl, rfl⟩
    go_wp2_with fail
    refine (l2Text_any A c _ p w rfl Hh.out (by omega) Hm.out).mono ?_
    rintro e w1 ⟨rfl, b1⟩
    go_wp2
    go_ret
    exact ⟨ret_str Hf.out.symm, b1⟩

end Go.Proofs.YtinhcdppdnmlgaaDoor
