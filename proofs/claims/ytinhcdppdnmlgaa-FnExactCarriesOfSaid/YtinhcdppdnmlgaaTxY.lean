/- Carries of the program: one round, all rounds; how often, on both sides. -/
import Derived.Test.YtinhcdppdnmlgaaTxX
import Derived.Deep.RegionHeld3
import Derived.Lib.ConvBytes
namespace Go.Proofs.Ytinhcdppdnmlgaa
open Go.RowKit
set_option maxRecDepth 4000

/-- A row of bytes that may be written. -/
def Row (w : World) (g : Nat) (xs : List Int) : Prop := g < w.heap.size ∧ ∀ (j : Nat) (x : Int), xs[j]? = some x → w.cell? ⟨g, j, none⟩ = some (.int .u8 x) ∧ w.frozen? ⟨g, j, none⟩ = false
theorem Row.below {w w' : World} {g : Nat} {xs : List Int} (h : Row w g xs) (b : Below w.heap.size w w') : Row w' g xs :=
  ⟨Nat.lt_of_lt_of_le h.1 b.size, fun j x hj => by
    obtain ⟨h1, h2⟩ := h.2 j x hj
    exact ⟨by rw [b.cell (p := ⟨g, j, none⟩) h.1]; exact h1, by rw [b.frozen (p := ⟨g, j, none⟩) h.1]; exact h2⟩⟩
theorem Row.other {w : World} {g r : Nat} {xs : List Int} (h : Row w g xs) (hr : r ≠ g) (k : Nat) (v : Value) : Row (w.setCell ⟨r, k, none⟩ v) g xs :=
  ⟨by simpa [World.setCell] using h.1, fun j x hj => by
    obtain ⟨h1, h2⟩ := h.2 j x hj
    exact ⟨by rw [World.cell?_setCell_far _ _ _ _ hr]; exact h1, by rw [World.frozen?_setCell]; exact h2⟩⟩
theorem Row.set {w : World} {g : Nat} {xs : List Int} (h : Row w g xs) {k : Nat} {y : Int} (hk : xs[k]? = some y) (v : Int) : Row (w.setCell ⟨g, k, none⟩ (.int .u8 v)) g (xs.set k v) :=
  ⟨by simpa [World.setCell] using h.1, fun j x hj => by
    rw [World.frozen?_setCell]
    by_cases hjk : j = k
    · subst hjk
      rw [List.getElem?_set_self (List.getElem?_eq_some_iff.1 hk).1] at hj
      injection hj with hj
      subst hj
      exact ⟨World.cell?_setCell_same' _ _ _ (by rw [(h.2 j y hk).1]; rfl), (h.2 j y hk).2⟩
    · rw [List.getElem?_set_ne (fun e => hjk e.symm)] at hj
      obtain ⟨h1, h2⟩ := h.2 j x hj
      exact ⟨by rw [World.cell?_setCell_other _ _ _ _ (by intro e; injection e with _ e; exact hjk e.symm)]; exact h1, h2⟩⟩

def b48 (ds : List Nat) : List Int := ds.map fun d : Nat => ((48 + d : Nat) : Int)
theorem b48_at {ds : List Nat} {k d : Nat} (h : ds[k]? = some d) : (b48 ds)[k]? = some (48 + (d : Int)) := by
  rw [b48, List.getElem?_map, h]; rfl
theorem b48_set (ds : List Nat) (k d : Nat) : (b48 ds).set k (48 + (d : Int)) = b48 (ds.set k d) := by
  rw [b48, b48, List.map_set]; rfl

theorem Row.str {w : World} {g W : Nat} {ds : List Nat} (h : Row w g (b48 ds)) (hl : ds.length = W) (h9 : Le 9 ds) (c : Nat) :
    (convert 46 9 (.slice (some ⟨g, 0, none⟩) W c)).run Try.prog w = .ok (.string (dstr ds)) w := by
  subst hl
  have := run_convert_bytes_back (P := Try.prog) w 46 9 5 ⟨g, 0, none⟩ c (ds.map fun d => UInt8.ofNat (48 + d)) Try.underlying46 Try.underlying5 Try.underlying9 (fun j hj => by
    rw [List.length_map] at hj
    have hj2 : ds[j]? = some ds[j] := List.getElem?_eq_getElem hj
    have hadd : (⟨g, 0, none⟩ : Addr).add j = ⟨g, j, none⟩ := by unfold Addr.add; split <;> simp_all
    have h9j := h9 ds[j] (List.getElem_mem _)
    rw [hadd, (h.2 j _ (b48_at hj2)).1, List.getElem_map, u8_toNat (by omega)]
    rfl)
  rw [List.length_map] at this
  exact this

theorem conv_bytes (ds : List Nat) (C : ByteArray) (w : World) (hC : dstr ds = C) (h9 : Le 9 ds) :
    ∃ cap w', (convert 9 46 (.string C)).run Try.prog w = .ok (.slice (some ⟨w.heap.size, 0, none⟩) C.size cap) w' ∧ Below w.heap.size w w' ∧ Row w' w.heap.size (b48 ds) := by
  refine ⟨_, _, Lib.run_convert_string_bytes w 9 46 5 C Try.underlying9 Try.underlying46 Try.underlying5, ?_, ?_⟩
  · have h1 : ∀ k, k < w.heap.size → (Lib.bytesWorld w 5 C).heap[k]? = w.heap[k]? := fun k hk => Lib.bytesWorld_at_old w 5 C k hk
    refine ⟨?_, ?_, ?_, by rw [Lib.bytesWorld_size]; omega, h1⟩
    · exact ((Below.refl w.heap.size w).drew.alloc (Nat.le_refl _) (.cells (Lib.bytesCells w 5 C) 5)).os
    · exact ((Below.refl w.heap.size w).drew.alloc (Nat.le_refl _) (.cells (Lib.bytesCells w 5 C) 5)).tape
    · exact ((Below.refl w.heap.size w).drew.alloc (Nat.le_refl _) (.cells (Lib.bytesCells w 5 C) 5)).output
  · refine ⟨by rw [Lib.bytesWorld_size]; omega, fun j x hj => ?_⟩
    subst hC
    rw [b48, List.getElem?_map] at hj
    cases hd : ds[j]? with
    | none => rw [hd] at hj; cases hj
    | some d =>
      rw [hd] at hj
      injection hj with hj
      have hjl := (List.getElem?_eq_some_iff.1 hd).1
      have hjs : j < (dstr ds).size := by rw [dstr_size]; exact hjl
      have h9d := h9.at_ hd
      have hb : (dstr ds).data.toList.getD j 0 = UInt8.ofNat (48 + d) := by
        rw [dstr_data, List.getD_eq_getElem?_getD, List.getElem?_map, hd]; rfl
      constructor
      · rw [Lib.bytesWorld_cell _ _ _ j hjs, hb, u8_toNat (by omega), ← hj]
      · have hn := Lib.bytesWorld_at_new w 5 (dstr ds)
        have hz : (dstr ds).size ≤ (Lib.bytesCells w 5 (dstr ds)).size := by
          rw [Lib.bytesCells, Array.size_append, Array.size_map]; exact Nat.le_add_right _ _
        unfold World.frozen?
        rw [show (⟨w.heap.size, j, none⟩ : Addr).block = w.heap.size from rfl, hn]
        show (decide (_ ≤ j) && _) = false
        rw [decide_eq_false (by omega)]; rfl

def mixL (a b : List Nat) (p : Nat) : List Nat := a.take p ++ b.drop p
theorem mixL_length {a b : List Nat} (h : a.length = b.length) (p : Nat) : (mixL a b p).length = b.length := by
  rw [mixL, List.length_append, List.length_take, List.length_drop]; omega
theorem mixL_at {a b : List Nat} {p : Nat} (h : a.length = b.length) (hp : p < b.length) : (mixL a b p)[p]? = b[p]? := by
  rw [mixL, List.getElem?_append_right (by rw [List.length_take]; omega), List.length_take, List.getElem?_drop]
  congr 1; omega
theorem mixL_set {a b : List Nat} {p v : Nat} (h : a.length = b.length) (hp : p < b.length) (hv : a[p]? = some v) : (mixL a b p).set p v = mixL a b (p + 1) := by
  apply List.ext_getElem?
  intro j
  by_cases hj : j = p
  · subst hj
    rw [List.getElem?_set_self (by rw [mixL_length h]; exact hp), mixL, List.getElem?_append_left (by rw [List.length_take]; omega), List.getElem?_take, if_pos (by omega), hv]
  · rw [List.getElem?_set_ne (fun e => hj e.symm)]
    rcases Nat.lt_or_ge j p with h1 | h1
    · rw [mixL, mixL, List.getElem?_append_left (by rw [List.length_take]; omega), List.getElem?_append_left (by rw [List.length_take]; omega), List.getElem?_take, List.getElem?_take, if_pos h1, if_pos (by omega)]
    · rw [mixL, mixL, List.getElem?_append_right (by rw [List.length_take]; omega), List.getElem?_append_right (by rw [List.length_take]; omega), List.length_take, List.length_take, List.getElem?_drop, List.getElem?_drop]
      congr 1; omega
theorem mixL_same {a b : List Nat} {p v : Nat} (h : a.length = b.length) (hp : p < b.length) (hv : a[p]? = some v) (hb : b[p]? = some v) : mixL a b (p + 1) = mixL a b p := by
  rw [← mixL_set h hp hv]
  apply List.ext_getElem?
  intro j
  by_cases hj : j = p
  · subst hj; rw [List.getElem?_set_self (by rw [mixL_length h]; exact hp), mixL_at h hp, hb]
  · rw [List.getElem?_set_ne (fun e => hj e.symm)]
theorem mixL_zero (a b : List Nat) : mixL a b 0 = b := rfl
theorem mixL_all {a b : List Nat} (h : a.length = b.length) : mixL a b b.length = a := by
  rw [mixL, List.drop_length, List.append_nil, List.take_of_length_le (by omega)]

theorem rep_dstr (n : Nat) : (⟨(Lib.repeatL (⟨#[48]⟩ : ByteArray).data.toList n).toArray⟩ : ByteArray) = dstr (List.replicate n 0) := by
  have h : Lib.repeatL (⟨#[48]⟩ : ByteArray).data.toList n = (List.replicate n 0).map fun d => UInt8.ofNat (48 + d) := by
    rw [List.map_replicate]
    show Lib.repeatL [48] n = List.replicate n 48
    induction n with
    | zero => rfl
    | succ n ih => rw [List.replicate_succ, ← ih]; simp [Lib.repeatL]
  rw [h]; rfl

/-- The program's round under way. -/
def OnR (w : World) (g1 g2 W : Nat) (c t n : List Nat) (i : Value) (wr : World) : Prop :=
  ∃ p : Nat, p + 1 ≤ W ∧ i = .int .i64 ((p : Int) + 1) ∧ Row wr g1 (b48 (mixL t c p)) ∧ Row wr g2 (b48 (mixL n (List.replicate W 0) p)) ∧ Below w.heap.size w wr

set_option maxHeartbeats 4000000 in
theorem CarryOnce_d (c m : List Nat) (C M C2 M2 : ByteArray) (w : World) (hC : dstr c = C) (hM : dstr m = M) (hC2 : dstr (turnL c (upL m)) = C2) (hM2 : dstr (warnL c (upL m)) = M2) (h1 : 1 ≤ c.length) (h12 : c.length ≤ 12) (hm : m.length = c.length) (dc : Le 9 c) (dm : Le 1 m) :
    Calls Try.prog 40 #[.string C, .string M] w fun e w' => Ret2 w C2 M2 e w' := by
  have hul := upL_length (w := m) (by omega)
  have HF := hd (fun w => marksFit_d c m C M w hC hM h1 h12 hm dc dm)
  have hCs : C.size = c.length := by rw [← hC, dstr_size]
  have hMs : M.size = c.length := by rw [← hM, dstr_size, hm]
  have hC1 : 1 ≤ C.size := by omega
  have hC12 : C.size ≤ 12 := by omega
  obtain ⟨cap1, w1, q1, b1, r1⟩ := conv_bytes c C w hC dc
  have HR := hd (Try.strings_Repeat ⟨#[48]⟩ C.size w1 (by omega) (by show 1 * C.size ≤ _; omega))
  rw [rep_dstr] at HR
  obtain ⟨R, hR⟩ : ∃ R, dstr (List.replicate C.size 0) = R := ⟨_, rfl⟩
  rw [hR] at HR
  have HCB := hd (fun w => conv_bytes (List.replicate C.size 0) R w hR (fun d hd2 => by rw [(List.mem_replicate.1 hd2).2]; omega))
  have hRs : R.size = C.size := by rw [← hR, dstr_size, List.length_replicate]
  have Hb := hd (fun k h => dstr_byte hM dm k h)
  obtain ⟨t, ht⟩ : ∃ t, turnL c (upL m) = t := ⟨_, rfl⟩
  obtain ⟨n, hn⟩ : ∃ n, warnL c (upL m) = n := ⟨_, rfl⟩
  have htl : t.length = c.length := by rw [← ht]; exact turnL_length (by omega)
  have hnl : n.length = c.length := by rw [← hn]; exact warnL_length (by omega)
  have Htl : Hid (t.length = c.length) := hd htl
  have Hnl : Hid (n.length = (List.replicate C.size 0).length) := hd (by rw [List.length_replicate]; omega)
  have Hcl : Hid (c.length = C.size) := hd hCs.symm
  have Hrl : Hid ((List.replicate C.size 0).length = C.size) := hd (List.length_replicate ..)
  have HMs : Hid (M.size = C.size) := hd (by omega)
  have Ht9 : Hid (Le 9 t) := hd (by rw [← ht]; exact turnL_le _ _)
  have Hn9 : Hid (Le 9 n) := hd (by rw [← hn]; exact (warnL_le dc ((upL_le dm).mono (by omega))).mono (by omega))
  have Ht2 : Hid (dstr t = C2) := hd (by rw [← ht]; exact hC2)
  have Hn2 : Hid (dstr n = M2) := hd (by rw [← hn]; exact hM2)
  -- what a place becomes
  have Hst := hd (show ∀ p x d, p + 1 < C.size → c[p]? = some x → m[p + 1]? = some d → t[p]? = some ((x + d) % 10) ∧ n[p]? = some ((x + d) / 10) from fun p x d hp hx hd2 => by
    have hu := upL_at hd2
    exact ⟨by rw [← ht]; exact turnL_at hx hu, by rw [← hn]; exact warnL_at hx hu⟩)
  have Hlast := hd (show ∀ p x, p + 1 = C.size → c[p]? = some x → t[p]? = some x ∧ n[p]? = some 0 from fun p x hp hx => by
    have hu := upL_last (w := m) (n := p) (by omega)
    have hx9 := dc.at_ hx
    have h3 := turnL_at hx hu
    have h4 := warnL_at hx hu
    rw [ht] at h3
    rw [hn] at h4
    exact ⟨by rw [h3]; congr 1; omega, by rw [h4]; congr 1; omega⟩)
  have Dc := hd dc
  have R1 := hd r1
  have B1 := hd b1
  have HRs := hd hRs
  clear hC hM hC2 hM2 hul hm dc dm hCs hMs h1 h12 r1 b1 hR ht hn htl hnl hRs
  have hw1 : w.heap.size < w1.heap.size := R1.out.1
  go_enter Try.func40, Try.ntmps40
  go_wp2_with fail
  refine (HF.out _).mono ?_
  rintro e w' ⟨rfl, rfl⟩
  go_wp2_with fail
  refine HR.out.mono ?_
  rintro e w2 ⟨rfl, b2⟩
  have R2 := hd (R1.out.below b2)
  have k2 := B1.out.trans (b2.mono B1.out.size)
  have hw2 : w.heap.size < w2.heap.size := R2.out.1
  obtain ⟨cap2, w3, q2, b3, r3⟩ := HCB.out w2
  have R3 := hd (R2.out.below b3)
  have N3 := hd r3
  have k3 := hd (k2.trans (b3.mono k2.size))
  rw [HRs.out] at q2
  have hgg : Hid (w.heap.size ≠ w2.heap.size) := hd (by omega)
  obtain ⟨g2, hg2⟩ : ∃ g2, g2 = w2.heap.size := ⟨_, rfl⟩
  rw [← hg2] at N3 q2 hgg
  have hw2' : w.heap.size < g2 := by omega
  have H0 : Hid (OnR w w.heap.size g2 C.size c t n (.int .i64 1) w3) := hd ⟨0, by omega, rfl, by rw [mixL_zero]; exact R3.out, by rw [mixL_zero]; exact N3.out, k3.out⟩
  clear b2 b3 r3 k2 k3 R2 R3 N3 hg2
  go_wp2
  go_loopw [9] (fun i wr => OnR w w.heap.size g2 C.size c t n i wr) (fun i _ => C.size - (intOf i).toNat)
  case atStart => exact H0.out
  case round =>
    clear H0 q1 q2
    obtain ⟨p, hp, rfl, rx, rn, bw⟩ := hrel
    have Rx := hd rx
    have Rn := hd rn
    have Bw := hd bw
    clear rx rn bw
    obtain ⟨x, hx⟩ : ∃ x, c[p]? = some x := ⟨c[p]'(by rw [Hcl.out]; omega), List.getElem?_eq_getElem _⟩
    have hx9 := Dc.out.at_ hx
    by_cases hlt : p + 1 < C.size
    · have e1 : (p : Int) + 1 < C.size := by omega
      have e2 : (p : Int) + 1 < M.size := by have := HMs.out; omega
      have e3 : (0 : Int) ≤ (p : Int) + 1 := by omega
      have e4 : ((p : Int) + 1).toNat = p + 1 := by omega
      have hlM : p + 1 < M.size := by have := HMs.out; omega
      have e5 : IntKind.i64.wrap ((p : Int) + 1 - 1) = p := (IntWalk.i64_in _ (by omega)).trans (by omega)
      rcases Hb.out (p + 1) hlM with ⟨hb, hd0⟩ | ⟨hb, hd1⟩
      · obtain ⟨s1, s2⟩ := Hst.out p x 0 hlt hx hd0
        have Hm1 : Hid (mixL t c (p + 1) = mixL t c p) := hd (mixL_same (v := x) Htl.out (by rw [Hcl.out]; omega) (by rw [s1]; congr 1; omega) hx)
        have Hm2 : Hid (mixL n (List.replicate C.size 0) (p + 1) = mixL n (List.replicate C.size 0) p) := hd (mixL_same (v := 0) Hnl.out (by rw [Hrl.out]; omega) (by rw [s2]; congr 1; omega) (by rw [List.getElem?_replicate, if_pos (by omega)]))
        have t1 : (((M[p + 1]).toNat : Int) != 49) = true := by rw [hb]; rfl
        clear hb hd0 s1 s2 hx
        go_wp2
        go_roundw
        case rel => exact ⟨p + 1, by omega, by go_num, by rw [Hm1.out]; exact Rx.out, by rw [Hm2.out]; exact Rn.out, Bw.out⟩
        case measure => simp [intOf] <;> omega
      · obtain ⟨s1, s2⟩ := Hst.out p x 1 hlt hx hd1
        have t1 : (((M[p + 1]).toNat : Int) != 49) = false := by rw [hb]; rfl
        have hmx : (mixL t c p)[p]? = some x := by rw [mixL_at Htl.out (by rw [Hcl.out]; omega)]; exact hx
        have hmz : (mixL n (List.replicate C.size 0) p)[p]? = some 0 := by rw [mixL_at Hnl.out (by rw [Hrl.out]; omega), List.getElem?_replicate, if_pos (by omega)]
        have Hmx := hd hmx
        have Hmz := hd hmz
        obtain ⟨hc1, hf1⟩ := Rx.out.2 p _ (b48_at hmx)
        obtain ⟨hc2, hf2⟩ := Rn.out.2 p _ (b48_at hmz)
        by_cases hx8 : x = 9
        · subst hx8
          have Hm1 : Hid ((b48 (mixL t c p)).set p 48 = b48 (mixL t c (p + 1))) := hd (by rw [← mixL_set Htl.out (by rw [Hcl.out]; omega) s1]; exact b48_set _ p 0)
          have Hm2 : Hid ((b48 (mixL n (List.replicate C.size 0) p)).set p 49 = b48 (mixL n (List.replicate C.size 0) (p + 1))) := hd (by rw [← mixL_set Hnl.out (by rw [Hrl.out]; omega) s2]; exact b48_set _ p 1)
          have Rx2 := hd ((Rx.out.set (b48_at Hmx.out) 48).other (r := g2) (fun e => hgg.out e.symm) p (.int .u8 49))
          have Rn2 := hd ((Rn.out.other (r := w.heap.size) hgg.out p (.int .u8 48)).set (b48_at Hmz.out) 49)
          have Bw2 := hd ((Bw.out.setCell (p := ⟨w.heap.size, p, none⟩) (Nat.le_refl _) (.int .u8 48)).setCell (p := ⟨g2, p, none⟩) (Nat.le_of_lt hw2') (.int .u8 49))
          have hcn : (wr.setCell ⟨w.heap.size, p, none⟩ (.int .u8 48)).cell? ⟨g2, p, none⟩ = some (.int .u8 (48 + ((0 : Nat) : Int))) := by rw [World.cell?_setCell_far _ _ _ _ hgg.out]; exact hc2
          have hne := hgg.out
          clear hb hd1 s1 s2 hx hmx hmz
          go_wp2
          go_roundw
          case rel => exact ⟨p + 1, by omega, by go_num, by rw [← Hm1.out]; exact Rx2.out, by rw [← Hm2.out]; exact Rn2.out, Bw2.out⟩
          case measure => simp [intOf] <;> omega
        · have Hm1 : Hid ((b48 (mixL t c p)).set p (48 + ((x + 1 : Nat) : Int)) = b48 (mixL t c (p + 1))) := hd (by rw [← mixL_set Htl.out (by rw [Hcl.out]; omega) (show t[p]? = some (x + 1) by rw [s1]; congr 1; omega)]; exact b48_set _ p (x + 1))
          have Hm2 : Hid (mixL n (List.replicate C.size 0) (p + 1) = mixL n (List.replicate C.size 0) p) := hd (mixL_same (v := 0) Hnl.out (by rw [Hrl.out]; omega) (by rw [s2]; congr 1; omega) (by rw [List.getElem?_replicate, if_pos (by omega)]))
          have Rx2 := hd (Rx.out.set (b48_at Hmx.out) (48 + (x : Int) + 1))
          have Rn2 := hd (Rn.out.other (r := w.heap.size) hgg.out p (.int .u8 (48 + (x : Int) + 1)))
          have Bw2 := hd (Bw.out.setCell (p := ⟨w.heap.size, p, none⟩) (Nat.le_refl _) (.int .u8 (48 + (x : Int) + 1)))
          have e6 : ((48 + (x : Int)) == 57) = false := by rw [beq_eq_false_iff_ne]; omega
          have e7 : IntKind.u8.wrap (48 + (x : Int) + 1) = 48 + (x : Int) + 1 := by simp only [IntKind.wrap, IntKind.bits, IntKind.signed]; simp; omega
          have Hcast : Hid (48 + ((x + 1 : Nat) : Int) = 48 + (x : Int) + 1) := hd (by omega)
          rw [Hcast.out] at Hm1
          clear hb hd1 s1 s2 hx hmx hmz hc2 hf2
          go_wp2
          go_roundw
          case rel => exact ⟨p + 1, by omega, by go_num, by rw [← Hm1.out]; exact Rx2.out, by rw [Hm2.out]; exact Rn2.out, Bw2.out⟩
          case measure => simp [intOf] <;> omega
    · have hpe : p + 1 = C.size := by omega
      obtain ⟨s1, s2⟩ := Hlast.out p x hpe hx
      have Hm1 : Hid (mixL t c p = t) := hd (by
        have h3 := mixL_same Htl.out (p := p) (by rw [Hcl.out]; omega) s1 hx
        rw [← h3, hpe, ← Hcl.out]; exact mixL_all Htl.out)
      have Hm2 : Hid (mixL n (List.replicate C.size 0) p = n) := hd (by
        have h3 := mixL_same Hnl.out (p := p) (by rw [Hrl.out]; omega) s2 (by rw [List.getElem?_replicate, if_pos (by omega)])
        rw [← h3, hpe]
        have h4 := mixL_all Hnl.out
        rwa [Hrl.out] at h4)
      rw [Hm1.out] at Rx
      rw [Hm2.out] at Rn
      have q1 := Row.str (w := wr.drew) Rx.out (W := C.size) (by rw [Htl.out, Hcl.out]) Ht9.out cap1
      have q2 := Row.str (w := wr.drew) Rn.out (W := C.size) (by rw [Hnl.out, Hrl.out]) Hn9.out cap2
      rw [Ht2.out] at q1
      rw [Hn2.out] at q2
      have hg : ¬ (p : Int) + 1 < C.size := by omega
      have Bd := hd Bw.out.drew
      clear hx s1 s2 hpe
      go_wp2
      go_region_law (fail)
      all_goals
        go_wp2
        exact bodyPost_ret (v := .tuple #[.string C2, .string M2, .bool true]) (by simp [results, Try.results40, go_sem]) rfl ⟨rfl, Bd.out⟩

end Go.Proofs.Ytinhcdppdnmlgaa
