/- Contracts of what draws columns: some string of the width. -/
import Derived.Test.YtcalheieakppmaaDrawA
import Derived.Test.YtcalheieakppmaaDrawB
import Derived.Test.YtcalheieakppmaaDrawC
import Derived.Test.YtcalheieakppmaaMemV
import Derived.Test.YtcalheieakppmaaColM
namespace Go.Proofs.Ytcalheieakppmaa
open Go.RowKit
set_option maxRecDepth 4000

theorem SG.off_grown {α : Type} {f : α → Value} {w w' : World} {A : Option Addr} {xs : List α} {g : Nat} (h : SG f w A xs) (hg : w.grownBy w' (some g)) (ho : Off A g) : SG f w' A xs := h.grown hg ho

def anyNums : List Int := [4, 6, 1, 2, 3, 5, 8, 12]
def IsW (v : Int) : Prop := 1 ≤ v ∧ v ≤ 12

set_option maxHeartbeats 800000 in
theorem l1Any_any (g : Nat) (P : Int) (w : World) (h : Rdr w g P) (hP : P ≤ 10000) :
    Calls Try.prog 154 #[.pointer (some ⟨g, 0, none⟩)] w fun e w' => Picked IsW g (P + 1) w e w' := by
  have H := hd h
  have hgw := h.lt
  clear h
  have Hlit : Hid (OwnI 3 w.heap.size (w.alloc (.cells #[.int .i64 4, .int .i64 6, .int .i64 1, .int .i64 2, .int .i64 3, .int .i64 5, .int .i64 8, .int .i64 12] 3)) (some ⟨w.heap.size, 0, none⟩) 8 anyNums) := hd
    ⟨by simp [anyNums], World.ownsRow_lit _ #[.int .i64 4, .int .i64 6, .int .i64 1, .int .i64 2, .int .i64 3, .int .i64 5, .int .i64 8, .int .i64 12] 8 (Nat.le_refl _) (by simp [maxLen]) rfl⟩
  have Ra := hd (H.out.below ((Below.refl w.heap.size w).alloc (Nat.le_refl _) (.cells #[.int .i64 4, .int .i64 6, .int .i64 1, .int .i64 2, .int .i64 3, .int .i64 5, .int .i64 8, .int .i64 12] 3)) hgw)
  have Hbl : Hid (0 < anyNums.length) := hd (by simp [anyNums])
  have G0 := hd ((Only.below (B := w.heap.size) (g := g) ((Below.refl w.heap.size w).alloc (Nat.le_refl _) (.cells #[.int .i64 4, .int .i64 6, .int .i64 1, .int .i64 2, .int .i64 3, .int .i64 5, .int .i64 8, .int .i64 12] 3)) (Nat.le_refl _)).grownBy)
  go_enter Try.func154, Try.ntmps154
  go_wp2_with fail
  refine (num_any g P _ 8 anyNums _ Ra.out (by omega) Hlit.out.si (Hlit.out.off hgw) Hbl.out).mono ?_
  rintro e w2 ⟨x, rfl, hx, r2, g2⟩
  have Hx : Hid (IsW x) := hd (by
    unfold anyNums at hx
    simp only [List.mem_cons, List.not_mem_nil, or_false] at hx
    unfold IsW
    omega)
  have R2 := hd r2
  have G2 := hd (only_trans G0.out g2)
  clear hx r2 g2
  go_wp2
  go_ret
  exact ⟨x, rfl, Hx.out, R2.out, G2.out⟩

/-- 'string(b)' of a row of the call's own: some string of its length. -/
theorem run_strI {src dst e : TypeId} {B : Nat} {E : TypeId} {w : World} {g c W : Nat} {xs : List Int} (hs : Try.prog.underlying src = some (.slice e)) (he : Try.prog.underlying e = some (.int .u8)) (hd' : Try.prog.underlying dst = some .string)
    (h : OwnB E B w (some ⟨g, 0, none⟩) c xs) (hl : xs.length = W) (hx : ∀ x ∈ xs, 0 ≤ x ∧ x ≤ 255) :
    ∃ s : ByteArray, s.size = W ∧ (convert src dst (.slice (some ⟨g, 0, none⟩) W c)).run Try.prog w = .ok (.string s) w := by
  have hl2 : (xs.map fun x => UInt8.ofNat x.toNat).length = W := by simp [hl]
  have := run_convert_bytes_back (P := Try.prog) w src dst e ⟨g, 0, none⟩ c (xs.map fun x => UInt8.ofNat x.toNat) hs he hd' (fun j hj => by
    rw [hl2] at hj
    obtain ⟨g', x, hx', hg, hc, _⟩ := h.at_ (k := j) (by rw [hl]; exact hj)
    simp only [Option.some.injEq, Addr.mk.injEq, and_true] at hg
    subst hg
    have hadd : (⟨g, 0, none⟩ : Addr).add j = ⟨g, j, none⟩ := by unfold Addr.add; split <;> simp_all
    rw [hadd, hc]
    obtain ⟨h3, h4⟩ := List.getElem?_eq_some_iff.1 hx'
    have hb := hx x (List.mem_of_getElem? hx')
    rw [List.getElem_map, h4, UInt8.toNat_ofNat']
    congr 2
    omega)
  rw [hl2] at this
  exact ⟨_, by show Array.size _ = W; simp [hl], this⟩

/-- A string is drawn. -/
def PickedS (Q : ByteArray → Prop) (g : Nat) (P : Int) (w : World) (e : Ending) (w' : World) : Prop :=
  ∃ s : ByteArray, e = .returned (.string s) ∧ Q s ∧ Rdr w' g P ∧ w.grownBy w' (some g)

theorem of_any (g : Nat) (P : Int) (A : Option Addr) (c : Nat) (zs : List ByteArray) (w : World) (h : Rdr w g P) (hP : P ≤ 100000) (hs : SS w A zs) (hoff : Off A g) (hn : 0 < zs.length) :
    Calls Try.prog 161 #[.pointer (some ⟨g, 0, none⟩), .slice A zs.length c] w fun e w' => PickedS (fun v => v ∈ zs) g (P + 1) w e w' := by
  obtain ⟨b, off, rfl, hb⟩ := hs.nonempty hn
  have hl := hs.len
  have H := hd h
  have Hs := hd hs
  have Hoff := hd hoff
  clear h hs hoff
  go_enter Try.func161, Try.ntmps161
  go_wp2_with fail
  refine (pick_any g P zs.length _ H.out hP).mono ?_
  rintro e w1 ⟨v, rfl, hv, hr, hg⟩
  obtain ⟨hv0, hv1⟩ := hv
  have hv2 := hv1 (by omega)
  obtain ⟨i, rfl⟩ := Int.eq_ofNat_of_zero_le hv0
  have hi : i < zs.length := by omega
  obtain ⟨x, b', off', hx, he, _, hc⟩ := (Hs.out.grown hg Hoff.out).at_ hi
  simp only [Option.some.injEq, Addr.mk.injEq, and_true] at he
  obtain ⟨rfl, rfl⟩ := he
  have Hr := hd hr
  have Hg := hd hg
  have Hx : Hid (x ∈ zs) := hd (List.mem_of_getElem? hx)
  clear hr hg hx hv1
  go_wp2
  go_ret
  exact ⟨x, rfl, Hx.out, Hr.out, Hg.out⟩

theorem all_set {xs : List Int} {k : Nat} {v : Int} (h : ∀ x ∈ xs, 0 ≤ x ∧ x ≤ 255) (hv : 0 ≤ v ∧ v ≤ 255) : ∀ x ∈ xs.set k v, 0 ≤ x ∧ x ≤ 255 := by
  intro x hx
  rcases List.mem_or_eq_of_mem_set hx with h1 | rfl
  · exact h x h1
  · exact hv

/-- The bytes of "0099". -/
def b0099 (v : Int) : Int := if v < 2 then 48 else 57

set_option maxHeartbeats 1600000 in
theorem l1Some_any (g W : Nat) (P : Int) (w : World) (h : Rdr w g P) (hP : P ≤ 10000) (hW : W ≤ 12) :
    Calls Try.prog 132 #[.pointer (some ⟨g, 0, none⟩), .int .i64 W] w fun e w' => PickedS (fun s => s.size = W) g (P + 40) w e w' := by
  obtain ⟨i0, hi, hz0, hz1, hz2⟩ := info_parts infoB
  have H := hd h
  have hgw := h.lt
  clear h
  go_enter Try.func132, Try.ntmps132
  go_wp2_with (at_make; refine wpList_make_full _ rfl _ _ 48 rfl w.heap.size 5 i0 (.int .u8 0) 1 Try.underlying48 hi hz0 hz1 .i64 .i64 _ _ W rfl rfl rfl rfl (by rw [hz2]; omega) (by unfold maxLen; omega) (Nat.le_refl _) ?_; intro w1 hown hgrow)
  have Hown0 : Hid (OwnB 5 w.heap.size w1 (some ⟨w.heap.size, 0, none⟩) W (List.replicate W 0)) := hd (OwnG.made 0 rfl hown (by omega))
  have Hb0 : Hid (Below w.heap.size w w1) := hd ((Below.refl _ _).grown hgrow (Nat.le_refl _) (by simp))
  have R1 := hd (H.out.below Hb0.out hgw)
  have N1 := hd ((Only.below (g := g) Hb0.out (Nat.le_refl _)))
  clear hown hgrow Hb0
  go_wp2_with fail
  refine (pick_any g P 4 _ R1.out (by omega)).mono ?_
  rintro e w2 ⟨md, rfl, hv, r2, g2⟩
  have Own2 := hd (Hown0.out.keep_lo g2 (fun r hr => by simp at hr; omega))
  have N2 := hd (N1.out.trans (Only.grown (B := w.heap.size) g2 N1.out.size))
  have R2 := hd (r2.more (show P + 1 ≤ P + 1 + 2 * ((0 : Nat) : Int) by omega))
  clear hv r2 g2
  go_wp2
  go_loopw [7] (fun i wr => ∃ (k : Nat) (xs : List Int), k ≤ W ∧ i = .int .i64 k ∧ xs.length = W ∧ (∀ x ∈ xs, 0 ≤ x ∧ x ≤ 255) ∧ OwnB 5 w.heap.size wr (some ⟨w.heap.size, 0, none⟩) W xs ∧ Rdr wr g (P + 1 + 2 * (k : Int)) ∧ Only w.heap.size g w wr)
    (fun i _ => W - (intOf i).toNat)
  case atStart => exact ⟨0, List.replicate W 0, by omega, rfl, by simp, (by intro x hx; have := List.eq_of_mem_replicate hx; omega), Own2.out, R2.out, N2.out⟩
  case round =>
    clear Hown0 R1 N1 Own2 R2 N2
    obtain ⟨k, xs, hk, rfl, hxl, hxb, own, rd, nn⟩ := hrel
    have Hxl := hd hxl
    have Hxb := hd hxb
    have Own := hd own
    have Rd := hd rd
    have Nn := hd nn
    clear hxl hxb own rd nn
    by_cases hlt : k < W
    · by_cases h0 : md = 0
      · subst h0
        go_wp2_with fail
        refine (pick_any g _ 10 _ Rd.out (by omega)).mono ?_
        rintro e w3 ⟨v, rfl, hv, r3, g3⟩
        obtain ⟨hv0, hv1⟩ := hv
        have hv2 := hv1 (by omega)
        have Own3 := hd (Own.out.keep_lo g3 (fun r hr => by simp at hr; omega))
        have N3 := hd (Nn.out.trans (Only.grown (B := w.heap.size) g3 Nn.out.size))
        have R3 := hd r3
        clear hv1 r3 g3
        obtain ⟨g', o, ho, hg', hco, hfo⟩ := Own3.out.at_ (k := k) (by rw [Hxl.out]; exact hlt)
        simp only [Option.some.injEq, Addr.mk.injEq, and_true] at hg'
        subst hg'
        clear ho
        have e1 : IntKind.u8.wrap (48 + v) = 48 + v := by
          simp only [IntKind.wrap, IntKind.bits, IntKind.signed]
          simp
          omega
        have Own4 := hd (Own3.out.set k (48 + v))
        have hb4 := (Below.refl w.heap.size w3).setCell (p := ⟨w.heap.size, k, none⟩) (Nat.le_refl _) (.int .u8 (48 + v))
        have R4 := hd (R3.out.below hb4 hgw)
        have N4 := hd (N3.out.trans (Only.below (g := g) hb4 (Nat.le_refl _)))
        have Hxb4 := hd (all_set (k := k) (v := 48 + v) Hxb.out ⟨by omega, by omega⟩)
        have Hxl4 : Hid ((xs.set k (48 + v)).length = W) := hd (by rw [List.length_set]; exact Hxl.out)
        clear hb4
        go_wp2_with fail
        refine (pick_any g _ 4 _ R4.out (by omega)).mono ?_
        rintro e w5 ⟨u, rfl, hu, r5, g5⟩
        obtain ⟨hu0, hu1⟩ := hu
        have hu2 := hu1 (by omega)
        have Own5 := hd (Own4.out.keep_lo g5 (fun r hr => by simp at hr; omega))
        have N5 := hd (N4.out.trans (Only.grown (B := w.heap.size) g5 N4.out.size))
        have R5 := hd r5
        clear hu1 r5 g5 hco hfo e1
        obtain ⟨g', o, ho, hg', hco, hfo⟩ := Own5.out.at_ (k := k) (by rw [Hxl4.out]; exact hlt)
        simp only [Option.some.injEq, Addr.mk.injEq, and_true] at hg'
        subst hg'
        clear ho
        have Hq : ∀ q : Int, 0 ≤ q → q ≤ 255 → Hid (OwnB 5 w.heap.size (w5.setCell ⟨w.heap.size, k, none⟩ (.int .u8 q)) (some ⟨w.heap.size, 0, none⟩) W ((xs.set k (48 + v)).set k q) ∧ (∀ x ∈ (xs.set k (48 + v)).set k q, 0 ≤ x ∧ x ≤ 255) ∧ Rdr (w5.setCell ⟨w.heap.size, k, none⟩ (.int .u8 q)) g (P + 1 + 2 * ((k + 1 : Nat) : Int)) ∧ Only w.heap.size g w (w5.setCell ⟨w.heap.size, k, none⟩ (.int .u8 q)) ∧ ((xs.set k (48 + v)).set k q).length = W) := fun q q0 q1 => hd (by
          have hb6 := (Below.refl w.heap.size w5).setCell (p := ⟨w.heap.size, k, none⟩) (Nat.le_refl _) (.int .u8 q)
          exact ⟨Own5.out.set k q, all_set Hxb4.out ⟨q0, q1⟩, (R5.out.below hb6 hgw).more (by omega), N5.out.trans (Only.below (g := g) hb6 (Nat.le_refl _)), by rw [List.length_set]; exact Hxl4.out⟩)
        have H48 := Hq 48 (by decide) (by decide)
        have H57 := Hq 57 (by decide) (by decide)
        clear Hq
        have hcases : u = 0 ∨ u = 1 ∨ u = 2 ∨ u = 3 := by omega
        rcases hcases with rfl | rfl | rfl | rfl
        · go_wp2
          go_roundw
          case rel => exact ⟨k + 1, _, by omega, by go_num, H48.out.2.2.2.2, H48.out.2.1, H48.out.1, H48.out.2.2.1, H48.out.2.2.2.1⟩
          case measure => simp [intOf] <;> omega
        · go_wp2
          go_roundw
          case rel => exact ⟨k + 1, _, by omega, by go_num, H48.out.2.2.2.2, H48.out.2.1, H48.out.1, H48.out.2.2.1, H48.out.2.2.2.1⟩
          case measure => simp [intOf] <;> omega
        · go_wp2
          go_roundw
          case rel => exact ⟨k + 1, _, by omega, by go_num, H57.out.2.2.2.2, H57.out.2.1, H57.out.1, H57.out.2.2.1, H57.out.2.2.2.1⟩
          case measure => simp [intOf] <;> omega
        · go_wp2
          go_roundw
          case rel => exact ⟨k + 1, _, by omega, by go_num, H57.out.2.2.2.2, H57.out.2.1, H57.out.1, H57.out.2.2.1, H57.out.2.2.2.1⟩
          case measure => simp [intOf] <;> omega
      · have e0 : (md == 0) = false := by simp [h0]
        clear h0
        go_wp2_with fail
        refine (pick_any g _ 10 _ Rd.out (by omega)).mono ?_
        rintro e w3 ⟨v, rfl, hv, r3, g3⟩
        obtain ⟨hv0, hv1⟩ := hv
        have hv2 := hv1 (by omega)
        have Own3 := hd (Own.out.keep_lo g3 (fun r hr => by simp at hr; omega))
        have N3 := hd (Nn.out.trans (Only.grown (B := w.heap.size) g3 Nn.out.size))
        have R3 := hd r3
        clear hv1 r3 g3
        obtain ⟨g', o, ho, hg', hco, hfo⟩ := Own3.out.at_ (k := k) (by rw [Hxl.out]; exact hlt)
        simp only [Option.some.injEq, Addr.mk.injEq, and_true] at hg'
        subst hg'
        clear ho
        have e1 : IntKind.u8.wrap (48 + v) = 48 + v := by
          simp only [IntKind.wrap, IntKind.bits, IntKind.signed]
          simp
          omega
        have Own4 := hd (Own3.out.set k (48 + v))
        have hb4 := (Below.refl w.heap.size w3).setCell (p := ⟨w.heap.size, k, none⟩) (Nat.le_refl _) (.int .u8 (48 + v))
        have R4 := hd ((R3.out.below hb4 hgw).more (show P + 1 + 2 * (k : Int) + 1 ≤ P + 1 + 2 * ((k + 1 : Nat) : Int) by omega))
        have N4 := hd (N3.out.trans (Only.below (g := g) hb4 (Nat.le_refl _)))
        have Hxb4 := hd (all_set (k := k) (v := 48 + v) Hxb.out ⟨by omega, by omega⟩)
        have Hxl4 : Hid ((xs.set k (48 + v)).length = W) := hd (by rw [List.length_set]; exact Hxl.out)
        clear hb4
        go_wp2
        go_roundw
        case rel => exact ⟨k + 1, _, by omega, by go_num, Hxl4.out, Hxb4.out, Own4.out, R4.out, N4.out⟩
        case measure => simp [intOf] <;> omega
    · obtain rfl : k = W := by omega
      obtain ⟨s, hs, hrun⟩ := run_strI (src := 48) (dst := 9) (e := 5) Try.underlying48 Try.underlying5 Try.underlying9 Own.out Hxl.out Hxb.out
      have Hs := hd hs
      clear hs
      go_wp2
      go_ret
      exact ⟨s, rfl, Hs.out, Rd.out.more (by omega), Nn.out.grownBy⟩

/-- One round of doubling. -/
theorem many_step {O S k T : Nat} (h : O + S * k = T) (hk : k % 2 = 1) : O + S + (S + S) * (k / 2) = T := by
  obtain ⟨j, rfl⟩ : ∃ j, k = 2 * j + 1 := ⟨k / 2, by omega⟩
  rw [show (2 * j + 1) / 2 = j by omega]
  rw [← h]
  grind
theorem many_step0 {O S k T : Nat} (h : O + S * k = T) (hk : k % 2 = 0) : O + (S + S) * (k / 2) = T := by
  obtain ⟨j, rfl⟩ : ∃ j, k = 2 * j := ⟨k / 2, by omega⟩
  rw [show (2 * j) / 2 = j by omega]
  rw [← h]
  grind
def ManyR (T : Nat) (s n o : Value) : Prop := ∃ (S O : ByteArray) (k : Nat), s = .string S ∧ n = .int .i64 k ∧ o = .string O ∧ O.size + S.size * k = T ∧ S.size ≤ 2 * T ∧ k ≤ 13

set_option maxHeartbeats 800000 in
theorem l9Many_any (s : ByteArray) (n : Nat) (w : World) (hs : s.size = 1) (hn1 : 1 ≤ n) (hn : n ≤ 13) :
    Calls Try.prog 162 #[.string s, .int .i64 n] w fun e w' => ∃ t : ByteArray, e = .returned (.string t) ∧ t.size ≤ 13 ∧ w = w' := by
  have H0 : Hid (ManyR n (.string s) (.int .i64 n) (.string ByteArray.empty)) := hd ⟨s, ByteArray.empty, n, rfl, rfl, rfl, by rw [hs]; simp, by omega, hn⟩
  go_enter Try.func162, Try.ntmps162
  go_wp2
  go_loop [0, 1, 5] (fun s k o => ManyR n s k o) (fun _ k _ => (intOf k).toNat)
  case atStart => exact H0.out
  case round =>
    obtain ⟨S, O, k, rfl, rfl, rfl, he, hS, hk13⟩ := hrel
    have He := hd he
    clear H0
    by_cases hk : 0 < k
    · have hSn : S.size ≤ n := by
        have h1 := he
        have h2 : S.size * 1 ≤ S.size * k := Nat.mul_le_mul (Nat.le_refl _) hk
        omega
      have hOn : O.size ≤ n := by omega
      have hsz1 : (O ++ S).size = O.size + S.size := ByteArray.size_append
      have hsz2 : (S ++ S).size = S.size + S.size := ByteArray.size_append
      clear he
      by_cases hp : k % 2 = 1
      · have hpi : (k : Int) % 2 = 1 := by omega
        have Hn : Hid (ManyR n (.string (S ++ S)) (.int .i64 ((k / 2 : Nat) : Int)) (.string (O ++ S))) := hd ⟨_, _, _, rfl, rfl, rfl, by rw [hsz1, hsz2]; exact many_step He.out hp, by rw [hsz2]; omega, by omega⟩
        go_wp2
        go_round
        case rel => exact Hn.out
        case measure => simp [intOf] <;> omega
      · have hp0 : k % 2 = 0 := by omega
        have hpi : (k : Int) % 2 = 0 := by omega
        have Hn : Hid (ManyR n (.string (S ++ S)) (.int .i64 ((k / 2 : Nat) : Int)) (.string O)) := hd ⟨_, _, _, rfl, rfl, rfl, by rw [hsz2]; exact many_step0 He.out hp0, by rw [hsz2]; omega, by omega⟩
        go_wp2
        go_round
        case rel => exact Hn.out
        case measure => simp [intOf] <;> omega
    · obtain rfl : k = 0 := by omega
      have hO : O.size ≤ 13 := by have := He.out; omega
      go_wp2
      go_ret
      exact ⟨O, rfl, hO, rfl⟩

def badStrs : List ByteArray := [⟨#[120]⟩, ⟨#[45]⟩, ⟨#[32]⟩, ⟨#[48]⟩]
def twoNums : List Int := [12, 13]

set_option maxHeartbeats 1600000 in
theorem l1Bad_any (g : Nat) (P : Int) (c : ByteArray) (w : World) (h : Rdr w g P) (hP : P ≤ 10000) (hc : c.size ≤ 100) :
    Calls Try.prog 155 #[.pointer (some ⟨g, 0, none⟩), .string c] w fun e w' => PickedS (fun s => s.size ≤ 200) g (P + 3) w e w' := by
  have H := hd h
  clear h
  go_enter Try.func155, Try.ntmps155
  go_wp2_with fail
  refine (pick_any g P 40 _ H.out (by omega)).mono ?_
  rintro e w1 ⟨v, rfl, hv, r1, g1⟩
  have R1 := hd r1
  have G1 := hd g1
  have hgw := r1.lt
  clear hv r1 g1
  by_cases h0 : v = 0
  · subst h0
    have Hlit : Hid (OwnS 9 w1.heap.size (w1.alloc (.cells #[.string ⟨#[120]⟩, .string ⟨#[45]⟩, .string ⟨#[32]⟩, .string ⟨#[48]⟩] 9)) (some ⟨w1.heap.size, 0, none⟩) 4 badStrs) := hd
      ⟨by simp [badStrs], World.ownsRow_lit _ #[.string ⟨#[120]⟩, .string ⟨#[45]⟩, .string ⟨#[32]⟩, .string ⟨#[48]⟩] 4 (Nat.le_refl _) (by simp [maxLen]) rfl⟩
    have Ra := hd (R1.out.below ((Below.refl w1.heap.size w1).alloc (Nat.le_refl _) (.cells #[.string ⟨#[120]⟩, .string ⟨#[45]⟩, .string ⟨#[32]⟩, .string ⟨#[48]⟩] 9)) hgw)
    have Hbl : Hid (0 < badStrs.length) := hd (by simp [badStrs])
    go_wp2_with fail
    refine (of_any g (P + 1) _ 4 badStrs _ Ra.out (by omega) Hlit.out.sg (Hlit.out.off hgw) Hbl.out).mono ?_
    rintro e w2 ⟨x, rfl, hx, r2, g2⟩
    have hx1 : x.size = 1 := by
      unfold badStrs at hx
      simp only [List.mem_cons, List.not_mem_nil, or_false] at hx
      rcases hx with rfl | rfl | rfl | rfl <;> rfl
    have hsz : (c ++ x).size = c.size + x.size := ByteArray.size_append
    have R2 := hd r2
    have G2 := hd (only_trans (only_alloc G1.out _) g2)
    have Hq : Hid ((c ++ x).size ≤ 200) := hd (by omega)
    clear hx r2 g2
    go_wp2
    go_ret
    exact ⟨_, rfl, Hq.out, R2.out.more (by omega), G2.out⟩
  by_cases h1 : v = 1
  · subst h1
    go_wp2
    go_ret
    exact ⟨⟨#[]⟩, rfl, (by decide), R1.out.more (by omega), G1.out⟩
  by_cases h2 : v = 2
  · subst h2
    have Hlit : Hid (OwnI 3 w1.heap.size (w1.alloc (.cells #[.int .i64 12, .int .i64 13] 3)) (some ⟨w1.heap.size, 0, none⟩) 2 twoNums) := hd
      ⟨by simp [twoNums], World.ownsRow_lit _ #[.int .i64 12, .int .i64 13] 2 (Nat.le_refl _) (by simp [maxLen]) rfl⟩
    have Ra := hd (R1.out.below ((Below.refl w1.heap.size w1).alloc (Nat.le_refl _) (.cells #[.int .i64 12, .int .i64 13] 3)) hgw)
    have Hbl : Hid (0 < twoNums.length) := hd (by simp [twoNums])
    go_wp2_with fail
    refine (num_any g (P + 1) _ 2 twoNums _ Ra.out (by omega) Hlit.out.si (Hlit.out.off hgw) Hbl.out).mono ?_
    rintro e w2 ⟨x, rfl, hx, r2, g2⟩
    obtain ⟨n, hn, hn1, hn2⟩ : ∃ n : Nat, x = n ∧ 1 ≤ n ∧ n ≤ 13 := by
      unfold twoNums at hx
      simp only [List.mem_cons, List.not_mem_nil, or_false] at hx
      exact ⟨x.toNat, by omega, by omega, by omega⟩
    subst hn
    have R2 := hd r2
    have G2 := hd (only_trans (only_alloc G1.out _) g2)
    clear hx r2 g2
    go_wp2_with fail
    refine (l9Many_any ⟨#[57]⟩ n _ rfl hn1 hn2).mono ?_
    rintro e w3 ⟨t, rfl, ht, rfl⟩
    have Ht : Hid (t.size ≤ 200) := hd (by omega)
    go_wp2
    go_ret
    exact ⟨_, rfl, Ht.out, R2.out.more (by omega), G2.out⟩
  · have e0 : (v == 0) = false := by simp [h0]
    have e1 : (v == 1) = false := by simp [h1]
    have e2 : (v == 2) = false := by simp [h2]
    have Hq : Hid (c.size ≤ 200) := hd (by omega)
    clear h0 h1 h2
    go_wp2
    go_ret
    exact ⟨c, rfl, Hq.out, R1.out.more (by omega), G1.out⟩

end Go.Proofs.Ytcalheieakppmaa
