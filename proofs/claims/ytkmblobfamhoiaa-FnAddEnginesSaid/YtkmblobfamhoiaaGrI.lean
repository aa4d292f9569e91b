/- Merged out of the texts DrawI DrawJ DrawK DrawL DrawM DrawO. -/
import Derived.Test.YtkmblobfamhoiaaGrH
import Derived.Test.YtkmblobfamhoiaaMemV
import Derived.Test.YtkmblobfamhoiaaGrD
import Derived.Test.YtkmblobfamhoiaaGrG
import Derived.Test.YtkmblobfamhoiaaGrE
import Derived.Deep.RegionLaw
/- Contracts of what draws columns: some string of the width. -/
namespace Go.Proofs.Ytkmblobfamhoiaa
open Go.RowKit
set_option maxRecDepth 4000

theorem SG.off_grown {α : Type} {f : α → Value} {w w' : World} {A : Option Addr} {xs : List α} {g : Nat} (h : SG f w A xs) (hg : w.grownBy w' (some g)) (ho : Off A g) : SG f w' A xs := h.grown hg ho

def anyNums : List Int := [4, 6, 1, 2, 3, 5, 8, 12]
def IsW (v : Int) : Prop := 1 ≤ v ∧ v ≤ 12

set_option maxHeartbeats 800000 in
theorem l1Any_any (g : Nat) (P : Int) (w : World) (h : Rdr w g P) (hP : P ≤ 10000) :
    Calls Try.prog 139 #[.pointer (some ⟨g, 0, none⟩)] w fun e w' => Picked IsW g (P + 1) w e w' := by
  have H := hd h
  have hgw := h.lt
  clear h
  have Hlit : Hid (OwnI 3 w.heap.size (w.alloc (.cells #[.int .i64 4, .int .i64 6, .int .i64 1, .int .i64 2, .int .i64 3, .int .i64 5, .int .i64 8, .int .i64 12] 3)) (some ⟨w.heap.size, 0, none⟩) 8 anyNums) := hd
    ⟨by simp [anyNums], World.ownsRow_lit _ #[.int .i64 4, .int .i64 6, .int .i64 1, .int .i64 2, .int .i64 3, .int .i64 5, .int .i64 8, .int .i64 12] 8 (Nat.le_refl _) (by simp [maxLen]) rfl⟩
  have Ra := hd (H.out.below ((Below.refl w.heap.size w).alloc (Nat.le_refl _) (.cells #[.int .i64 4, .int .i64 6, .int .i64 1, .int .i64 2, .int .i64 3, .int .i64 5, .int .i64 8, .int .i64 12] 3)) hgw)
  have Hbl : Hid (0 < anyNums.length) := hd (by simp [anyNums])
  have G0 := hd ((Only.below (B := w.heap.size) (g := g) ((Below.refl w.heap.size w).alloc (Nat.le_refl _) (.cells #[.int .i64 4, .int .i64 6, .int .i64 1, .int .i64 2, .int .i64 3, .int .i64 5, .int .i64 8, .int .i64 12] 3)) (Nat.le_refl _)).grownBy)
  go_enter Try.func139, Try.ntmps139
  go_wp2_with fail
  refine (num_any g P _ 8 anyNums _ Ra.out (by omega) Hlit.out.si (Hlit.out.off hgw) Hbl.out).mono ?_
  rintro e w2 ⟨x, rfl, hx, r2, g2⟩
  have Hx : Hid (IsW x) := hd (by
    unfold anyNums at hx
    simp only [List.mem_cons, List.not_mem_nil, or_false] at hx
    unfold IsW
    omega)
  have R2 := hd r2
  have G2 := hd (only_trans G0.out g2)
  clear hx r2 g2
  go_wp2
  go_ret
  exact ⟨x, rfl, Hx.out, R2.out, G2.out⟩

/-- 'string(b)' of a row of the call's own: some string of its length. -/
theorem run_strI {src dst e : TypeId} {B : Nat} {E : TypeId} {w : World} {g c W : Nat} {xs : List Int} (hs : Try.prog.underlying src = some (.slice e)) (he : Try.prog.underlying e = some (.int .u8)) (hd' : Try.prog.underlying dst = some .string)
    (h : OwnB E B w (some ⟨g, 0, none⟩) c xs) (hl : xs.length = W) (hx : ∀ x ∈ xs, 0 ≤ x ∧ x ≤ 255) :
    ∃ s : ByteArray, s.size = W ∧ (convert src dst (.slice (some ⟨g, 0, none⟩) W c)).run Try.prog w = .ok (.string s) w := by
  have hl2 : (xs.map fun x => UInt8.ofNat x.toNat).length = W := by simp [hl]
  have := run_convert_bytes_back (P := Try.prog) w src dst e ⟨g, 0, none⟩ c (xs.map fun x => UInt8.ofNat x.toNat) hs he hd' (fun j hj => by
    rw [hl2] at hj
    obtain ⟨g', x, hx', hg, hc, _⟩ := h.at_ (k := j) (by rw [hl]; exact hj)
    simp only [Option.some.injEq, Addr.mk.injEq, and_true] at hg
    subst hg
    have hadd : (⟨g, 0, none⟩ : Addr).add j = ⟨g, j, none⟩ := by unfold Addr.add; split <;> simp_all
    rw [hadd, hc]
    obtain ⟨h3, h4⟩ := List.getElem?_eq_some_iff.1 hx'
    have hb := hx x (List.mem_of_getElem? hx')
    rw [List.getElem_map, h4, UInt8.toNat_ofNat']
    congr 2
    omega)
  rw [hl2] at this
  exact ⟨_, by show Array.size _ = W; simp [hl], this⟩

/-- A string is drawn. -/
def PickedS (Q : ByteArray → Prop) (g : Nat) (P : Int) (w : World) (e : Ending) (w' : World) : Prop :=
  ∃ s : ByteArray, e = .returned (.string s) ∧ Q s ∧ Rdr w' g P ∧ w.grownBy w' (some g)

theorem of_any (g : Nat) (P : Int) (A : Option Addr) (c : Nat) (zs : List ByteArray) (w : World) (h : Rdr w g P) (hP : P ≤ 100000) (hs : SS w A zs) (hoff : Off A g) (hn : 0 < zs.length) :
    Calls Try.prog 151 #[.pointer (some ⟨g, 0, none⟩), .slice A zs.length c] w fun e w' => PickedS (fun v => v ∈ zs) g (P + 1) w e w' := by
  obtain ⟨b, off, rfl, hb⟩ := hs.nonempty hn
  have hl := hs.len
  have H := hd h
  have Hs := hd hs
  have Hoff := hd hoff
  clear h hs hoff
  go_enter Try.func151, Try.ntmps151
  go_wp2_with fail
  refine (pick_any g P zs.length _ H.out hP).mono ?_
  rintro e w1 ⟨v, rfl, hv, hr, hg⟩
  obtain ⟨hv0, hv1⟩ := hv
  have hv2 := hv1 (by omega)
  obtain ⟨i, rfl⟩ := Int.eq_ofNat_of_zero_le hv0
  have hi : i < zs.length := by omega
  obtain ⟨x, b', off', hx, he, _, hc⟩ := (Hs.out.grown hg Hoff.out).at_ hi
  simp only [Option.some.injEq, Addr.mk.injEq, and_true] at he
  obtain ⟨rfl, rfl⟩ := he
  have Hr := hd hr
  have Hg := hd hg
  have Hx : Hid (x ∈ zs) := hd (List.mem_of_getElem? hx)
  clear hr hg hx hv1
  go_wp2
  go_ret
  exact ⟨x, rfl, Hx.out, Hr.out, Hg.out⟩

theorem all_set {xs : List Int} {k : Nat} {v : Int} (h : ∀ x ∈ xs, 0 ≤ x ∧ x ≤ 255) (hv : 0 ≤ v ∧ v ≤ 255) : ∀ x ∈ xs.set k v, 0 ≤ x ∧ x ≤ 255 := by
  intro x hx
  rcases List.mem_or_eq_of_mem_set hx with h1 | rfl
  · exact h x h1
  · exact hv

/-- The bytes of "0099". -/
def b0099 (v : Int) : Int := if v < 2 then 48 else 57

set_option maxHeartbeats 1600000 in
theorem l1Some_any (g W : Nat) (P : Int) (w : World) (h : Rdr w g P) (hP : P ≤ 10000) (hW : W ≤ 12) :
    Calls Try.prog 86 #[.pointer (some ⟨g, 0, none⟩), .int .i64 W] w fun e w' => PickedS (fun s => s.size = W) g (P + 40) w e w' := by
  obtain ⟨i0, hi, hz0, hz1, hz2⟩ := info_parts infoB
  have H := hd h
  have hgw := h.lt
  clear h
  go_enter Try.func86, Try.ntmps86
  go_wp2_with (at_make; refine wpList_make_full _ rfl _ _ 22 rfl w.heap.size 5 i0 (.int .u8 0) 1 Try.underlying22 hi hz0 hz1 .i64 .i64 _ _ W rfl rfl rfl rfl (by rw [hz2]; omega) (by unfold maxLen; omega) (Nat.le_refl _) ?_; intro w1 hown hgrow)
  have Hown0 : Hid (OwnB 5 w.heap.size w1 (some ⟨w.heap.size, 0, none⟩) W (List.replicate W 0)) := hd (OwnG.made 0 rfl hown (by omega))
  have Hb0 : Hid (Below w.heap.size w w1) := hd ((Below.refl _ _).grown hgrow (Nat.le_refl _) (by simp))
  have R1 := hd (H.out.below Hb0.out hgw)
  have N1 := hd ((Only.below (g := g) Hb0.out (Nat.le_refl _)))
  clear hown hgrow Hb0
  go_wp2_with fail
  refine (pick_any g P 4 _ R1.out (by omega)).mono ?_
  rintro e w2 ⟨md, rfl, hv, r2, g2⟩
  have Own2 := hd (Hown0.out.keep_lo g2 (fun r hr => by simp at hr; omega))
  have N2 := hd (N1.out.trans (Only.grown (B := w.heap.size) g2 N1.out.size))
  have R2 := hd (r2.more (show P + 1 ≤ P + 1 + 2 * ((0 : Nat) : Int) by omega))
  clear hv r2 g2
  go_wp2
  go_loopw [7] (fun i wr => ∃ (k : Nat) (xs : List Int), k ≤ W ∧ i = .int .i64 k ∧ xs.length = W ∧ (∀ x ∈ xs, 0 ≤ x ∧ x ≤ 255) ∧ OwnB 5 w.heap.size wr (some ⟨w.heap.size, 0, none⟩) W xs ∧ Rdr wr g (P + 1 + 2 * (k : Int)) ∧ Only w.heap.size g w wr)
    (fun i _ => W - (intOf i).toNat)
  case atStart => exact ⟨0, List.replicate W 0, by omega, rfl, by simp, (by intro x hx; have := List.eq_of_mem_replicate hx; omega), Own2.out, R2.out, N2.out⟩
  case round =>
    clear Hown0 R1 N1 Own2 R2 N2
    obtain ⟨k, xs, hk, rfl, hxl, hxb, own, rd, nn⟩ := hrel
    have Hxl := hd hxl
    have Hxb := hd hxb
    have Own := hd own
    have Rd := hd rd
    have Nn := hd nn
    clear hxl hxb own rd nn
    by_cases hlt : k < W
    · by_cases h0 : md = 0
      · subst h0
        go_wp2_with fail
        refine (pick_any g _ 10 _ Rd.out (by omega)).mono ?_
        rintro e w3 ⟨v, rfl, hv, r3, g3⟩
        obtain ⟨hv0, hv1⟩ := hv
        have hv2 := hv1 (by omega)
        have Own3 := hd (Own.out.keep_lo g3 (fun r hr => by simp at hr; omega))
        have N3 := hd (Nn.out.trans (Only.grown (B := w.heap.size) g3 Nn.out.size))
        have R3 := hd r3
        clear hv1 r3 g3
        obtain ⟨g', o, ho, hg', hco, hfo⟩ := Own3.out.at_ (k := k) (by rw [Hxl.out]; exact hlt)
        simp only [Option.some.injEq, Addr.mk.injEq, and_true] at hg'
        subst hg'
        clear ho
        have e1 : IntKind.u8.wrap (48 + v) = 48 + v := by
          simp only [IntKind.wrap, IntKind.bits, IntKind.signed]
          simp
          omega
        have Own4 := hd (Own3.out.set k (48 + v))
        have hb4 := (Below.refl w.heap.size w3).setCell (p := ⟨w.heap.size, k, none⟩) (Nat.le_refl _) (.int .u8 (48 + v))
        have R4 := hd (R3.out.below hb4 hgw)
        have N4 := hd (N3.out.trans (Only.below (g := g) hb4 (Nat.le_refl _)))
        have Hxb4 := hd (all_set (k := k) (v := 48 + v) Hxb.out ⟨by omega, by omega⟩)
        have Hxl4 : Hid ((xs.set k (48 + v)).length = W) := hd (by rw [List.length_set]; exact Hxl.out)
        clear hb4
        go_wp2_with fail
        refine (pick_any g _ 4 _ R4.out (by omega)).mono ?_
        rintro e w5 ⟨u, rfl, hu, r5, g5⟩
        obtain ⟨hu0, hu1⟩ := hu
        have hu2 := hu1 (by omega)
        have Own5 := hd (Own4.out.keep_lo g5 (fun r hr => by simp at hr; omega))
        have N5 := hd (N4.out.trans (Only.grown (B := w.heap.size) g5 N4.out.size))
        have R5 := hd r5
        clear hu1 r5 g5 hco hfo e1
        obtain ⟨g', o, ho, hg', hco, hfo⟩ := Own5.out.at_ (k := k) (by rw [Hxl4.out]; exact hlt)
        simp only [Option.some.injEq, Addr.mk.injEq, and_true] at hg'
        subst hg'
        clear ho
        have Hq : ∀ q : Int, 0 ≤ q → q ≤ 255 → Hid (OwnB 5 w.heap.size (w5.setCell ⟨w.heap.size, k, none⟩ (.int .u8 q)) (some ⟨w.heap.size, 0, none⟩) W ((xs.set k (48 + v)).set k q) ∧ (∀ x ∈ (xs.set k (48 + v)).set k q, 0 ≤ x ∧ x ≤ 255) ∧ Rdr (w5.setCell ⟨w.heap.size, k, none⟩ (.int .u8 q)) g (P + 1 + 2 * ((k + 1 : Nat) : Int)) ∧ Only w.heap.size g w (w5.setCell ⟨w.heap.size, k, none⟩ (.int .u8 q)) ∧ ((xs.set k (48 + v)).set k q).length = W) := fun q q0 q1 => hd (by
          have hb6 := (Below.refl w.heap.size w5).setCell (p := ⟨w.heap.size, k, none⟩) (Nat.le_refl _) (.int .u8 q)
          exact ⟨Own5.out.set k q, all_set Hxb4.out ⟨q0, q1⟩, (R5.out.below hb6 hgw).more (by omega), N5.out.trans (Only.below (g := g) hb6 (Nat.le_refl _)), by rw [List.length_set]; exact Hxl4.out⟩)
        have H48 := Hq 48 (by decide) (by decide)
        have H57 := Hq 57 (by decide) (by decide)
        clear Hq
        have hcases : u = 0 ∨ u = 1 ∨ u = 2 ∨ u = 3 := by omega
        rcases hcases with rfl | rfl | rfl | rfl
        · go_wp2
          go_roundw
          case rel => exact ⟨k + 1, _, by omega, by go_num, H48.out.2.2.2.2, H48.out.2.1, H48.out.1, H48.out.2.2.1, H48.out.2.2.2.1⟩
          case measure => simp [intOf] <;> omega
        · go_wp2
          go_roundw
          case rel => exact ⟨k + 1, _, by omega, by go_num, H48.out.2.2.2.2, H48.out.2.1, H48.out.1, H48.out.2.2.1, H48.out.2.2.2.1⟩
          case measure => simp [intOf] <;> omega
        · go_wp2
          go_roundw
          case rel => exact ⟨k + 1, _, by omega, by go_num, H57.out.2.2.2.2, H57.out.2.1, H57.out.1, H57.out.2.2.1, H57.out.2.2.2.1⟩
          case measure => simp [intOf] <;> omega
        · go_wp2
          go_roundw
          case rel => exact ⟨k + 1, _, by omega, by go_num, H57.out.2.2.2.2, H57.out.2.1, H57.out.1, H57.out.2.2.1, H57.out.2.2.2.1⟩
          case measure => simp [intOf] <;> omega
      · have e0 : (md == 0) = false := by simp [h0]
        clear h0
        go_wp2_with fail
        refine (pick_any g _ 10 _ Rd.out (by omega)).mono ?_
        rintro e w3 ⟨v, rfl, hv, r3, g3⟩
        obtain ⟨hv0, hv1⟩ := hv
        have hv2 := hv1 (by omega)
        have Own3 := hd (Own.out.keep_lo g3 (fun r hr => by simp at hr; omega))
        have N3 := hd (Nn.out.trans (Only.grown (B := w.heap.size) g3 Nn.out.size))
        have R3 := hd r3
        clear hv1 r3 g3
        obtain ⟨g', o, ho, hg', hco, hfo⟩ := Own3.out.at_ (k := k) (by rw [Hxl.out]; exact hlt)
        simp only [Option.some.injEq, Addr.mk.injEq, and_true] at hg'
        subst hg'
        clear ho
        have e1 : IntKind.u8.wrap (48 + v) = 48 + v := by
          simp only [IntKind.wrap, IntKind.bits, IntKind.signed]
          simp
          omega
        have Own4 := hd (Own3.out.set k (48 + v))
        have hb4 := (Below.refl w.heap.size w3).setCell (p := ⟨w.heap.size, k, none⟩) (Nat.le_refl _) (.int .u8 (48 + v))
        have R4 := hd ((R3.out.below hb4 hgw).more (show P + 1 + 2 * (k : Int) + 1 ≤ P + 1 + 2 * ((k + 1 : Nat) : Int) by omega))
        have N4 := hd (N3.out.trans (Only.below (g := g) hb4 (Nat.le_refl _)))
        have Hxb4 := hd (all_set (k := k) (v := 48 + v) Hxb.out ⟨by omega, by omega⟩)
        have Hxl4 : Hid ((xs.set k (48 + v)).length = W) := hd (by rw [List.length_set]; exact Hxl.out)
        clear hb4
        go_wp2
        go_roundw
        case rel => exact ⟨k + 1, _, by omega, by go_num, Hxl4.out, Hxb4.out, Own4.out, R4.out, N4.out⟩
        case measure => simp [intOf] <;> omega
    · obtain rfl : k = W := by omega
      obtain ⟨s, hs, hrun⟩ := run_strI (src := 22) (dst := 9) (e := 5) Try.underlying22 Try.underlying5 Try.underlying9 Own.out Hxl.out Hxb.out
      have Hs := hd hs
      clear hs
      go_wp2
      go_ret
      exact ⟨s, rfl, Hs.out, Rd.out.more (by omega), Nn.out.grownBy⟩

/-- One round of doubling. -/
theorem many_step {O S k T : Nat} (h : O + S * k = T) (hk : k % 2 = 1) : O + S + (S + S) * (k / 2) = T := by
  obtain ⟨j, rfl⟩ : ∃ j, k = 2 * j + 1 := ⟨k / 2, by omega⟩
  rw [show (2 * j + 1) / 2 = j by omega]
  rw [← h]
  grind
theorem many_step0 {O S k T : Nat} (h : O + S * k = T) (hk : k % 2 = 0) : O + (S + S) * (k / 2) = T := by
  obtain ⟨j, rfl⟩ : ∃ j, k = 2 * j := ⟨k / 2, by omega⟩
  rw [show (2 * j) / 2 = j by omega]
  rw [← h]
  grind
def ManyR (T : Nat) (s n o : Value) : Prop := ∃ (S O : ByteArray) (k : Nat), s = .string S ∧ n = .int .i64 k ∧ o = .string O ∧ O.size + S.size * k = T ∧ S.size ≤ 2 * T ∧ k ≤ 13

set_option maxHeartbeats 800000 in
theorem l9Many_any (s : ByteArray) (n : Nat) (w : World) (hs : s.size = 1) (hn1 : 1 ≤ n) (hn : n ≤ 13) :
    Calls Try.prog 152 #[.string s, .int .i64 n] w fun e w' => ∃ t : ByteArray, e = .returned (.string t) ∧ t.size ≤ 13 ∧ w = w' := by
  have H0 : Hid (ManyR n (.string s) (.int .i64 n) (.string ByteArray.empty)) := hd ⟨s, ByteArray.empty, n, rfl, rfl, rfl, by rw [hs]; simp, by omega, hn⟩
  go_enter Try.func152, Try.ntmps152
  go_wp2
  go_loop [0, 1, 5] (fun s k o => ManyR n s k o) (fun _ k _ => (intOf k).toNat)
  case atStart => exact H0.out
  case round =>
    obtain ⟨S, O, k, rfl, rfl, rfl, he, hS, hk13⟩ := hrel
    have He := hd he
    clear H0
    by_cases hk : 0 < k
    · have hSn : S.size ≤ n := by
        have h1 := he
        have h2 : S.size * 1 ≤ S.size * k := Nat.mul_le_mul (Nat.le_refl _) hk
        omega
      have hOn : O.size ≤ n := by omega
      have hsz1 : (O ++ S).size = O.size + S.size := ByteArray.size_append
      have hsz2 : (S ++ S).size = S.size + S.size := ByteArray.size_append
      clear he
      by_cases hp : k % 2 = 1
      · have hpi : (k : Int) % 2 = 1 := by omega
        have Hn : Hid (ManyR n (.string (S ++ S)) (.int .i64 ((k / 2 : Nat) : Int)) (.string (O ++ S))) := hd ⟨_, _, _, rfl, rfl, rfl, by rw [hsz1, hsz2]; exact many_step He.out hp, by rw [hsz2]; omega, by omega⟩
        go_wp2
        go_round
        case rel => exact Hn.out
        case measure => simp [intOf] <;> omega
      · have hp0 : k % 2 = 0 := by omega
        have hpi : (k : Int) % 2 = 0 := by omega
        have Hn : Hid (ManyR n (.string (S ++ S)) (.int .i64 ((k / 2 : Nat) : Int)) (.string O)) := hd ⟨_, _, _, rfl, rfl, rfl, by rw [hsz2]; exact many_step0 He.out hp0, by rw [hsz2]; omega, by omega⟩
        go_wp2
        go_round
        case rel => exact Hn.out
        case measure => simp [intOf] <;> omega
    · obtain rfl : k = 0 := by omega
      have hO : O.size ≤ 13 := by have := He.out; omega
      go_wp2
      go_ret
      exact ⟨O, rfl, hO, rfl⟩

def badStrs : List ByteArray := [⟨#[120]⟩, ⟨#[45]⟩, ⟨#[32]⟩, ⟨#[48]⟩]
def twoNums : List Int := [12, 13]

set_option maxHeartbeats 1600000 in
theorem l1Bad_any (g : Nat) (P : Int) (c : ByteArray) (w : World) (h : Rdr w g P) (hP : P ≤ 10000) (hc : c.size ≤ 100) :
    Calls Try.prog 141 #[.pointer (some ⟨g, 0, none⟩), .string c] w fun e w' => PickedS (fun s => s.size ≤ 200) g (P + 3) w e w' := by
  have H := hd h
  clear h
  go_enter Try.func141, Try.ntmps141
  go_wp2_with fail
  refine (pick_any g P 40 _ H.out (by omega)).mono ?_
  rintro e w1 ⟨v, rfl, hv, r1, g1⟩
  have R1 := hd r1
  have G1 := hd g1
  have hgw := r1.lt
  clear hv r1 g1
  by_cases h0 : v = 0
  · subst h0
    have Hlit : Hid (OwnS 9 w1.heap.size (w1.alloc (.cells #[.string ⟨#[120]⟩, .string ⟨#[45]⟩, .string ⟨#[32]⟩, .string ⟨#[48]⟩] 9)) (some ⟨w1.heap.size, 0, none⟩) 4 badStrs) := hd
      ⟨by simp [badStrs], World.ownsRow_lit _ #[.string ⟨#[120]⟩, .string ⟨#[45]⟩, .string ⟨#[32]⟩, .string ⟨#[48]⟩] 4 (Nat.le_refl _) (by simp [maxLen]) rfl⟩
    have Ra := hd (R1.out.below ((Below.refl w1.heap.size w1).alloc (Nat.le_refl _) (.cells #[.string ⟨#[120]⟩, .string ⟨#[45]⟩, .string ⟨#[32]⟩, .string ⟨#[48]⟩] 9)) hgw)
    have Hbl : Hid (0 < badStrs.length) := hd (by simp [badStrs])
    go_wp2_with fail
    refine (of_any g (P + 1) _ 4 badStrs _ Ra.out (by omega) Hlit.out.sg (Hlit.out.off hgw) Hbl.out).mono ?_
    rintro e w2 ⟨x, rfl, hx, r2, g2⟩
    have hx1 : x.size = 1 := by
      unfold badStrs at hx
      simp only [List.mem_cons, List.not_mem_nil, or_false] at hx
      rcases hx with rfl | rfl | rfl | rfl <;> rfl
    have hsz : (c ++ x).size = c.size + x.size := ByteArray.size_append
    have R2 := hd r2
    have G2 := hd (only_trans (only_alloc G1.out _) g2)
    have Hq : Hid ((c ++ x).size ≤ 200) := hd (by omega)
    clear hx r2 g2
    go_wp2
    go_ret
    exact ⟨_, rfl, Hq.out, R2.out.more (by omega), G2.out⟩
  by_cases h1 : v = 1
  · subst h1
    go_wp2
    go_ret
    exact ⟨⟨#[]⟩, rfl, (by decide), R1.out.more (by omega), G1.out⟩
  by_cases h2 : v = 2
  · subst h2
    have Hlit : Hid (OwnI 3 w1.heap.size (w1.alloc (.cells #[.int .i64 12, .int .i64 13] 3)) (some ⟨w1.heap.size, 0, none⟩) 2 twoNums) := hd
      ⟨by simp [twoNums], World.ownsRow_lit _ #[.int .i64 12, .int .i64 13] 2 (Nat.le_refl _) (by simp [maxLen]) rfl⟩
    have Ra := hd (R1.out.below ((Below.refl w1.heap.size w1).alloc (Nat.le_refl _) (.cells #[.int .i64 12, .int .i64 13] 3)) hgw)
    have Hbl : Hid (0 < twoNums.length) := hd (by simp [twoNums])
    go_wp2_with fail
    refine (num_any g (P + 1) _ 2 twoNums _ Ra.out (by omega) Hlit.out.si (Hlit.out.off hgw) Hbl.out).mono ?_
    rintro e w2 ⟨x, rfl, hx, r2, g2⟩
    obtain ⟨n, hn, hn1, hn2⟩ : ∃ n : Nat, x = n ∧ 1 ≤ n ∧ n ≤ 13 := by
      unfold twoNums at hx
      simp only [List.mem_cons, List.not_mem_nil, or_false] at hx
      exact ⟨x.toNat, by omega, by omega, by omega⟩
    subst hn
    have R2 := hd r2
    have G2 := hd (only_trans (only_alloc G1.out _) g2)
    clear hx r2 g2
    go_wp2_with fail
    refine (l9Many_any ⟨#[57]⟩ n _ rfl hn1 hn2).mono ?_
    rintro e w3 ⟨t, rfl, ht, rfl⟩
    have Ht : Hid (t.size ≤ 200) := hd (by omega)
    go_wp2
    go_ret
    exact ⟨_, rfl, Ht.out, R2.out.more (by omega), G2.out⟩
  · have e0 : (v == 0) = false := by simp [h0]
    have e1 : (v == 1) = false := by simp [h1]
    have e2 : (v == 2) = false := by simp [h2]
    have Hq : Hid (c.size ≤ 200) := hd (by omega)
    clear h0 h1 h2
    go_wp2
    go_ret
    exact ⟨c, rfl, Hq.out, R1.out.more (by omega), G1.out⟩

end Go.Proofs.Ytkmblobfamhoiaa

/- Contracts of what draws engines: some engine, or some list of strings. -/
namespace Go.Proofs.Ytkmblobfamhoiaa
open Go.RowKit
set_option maxRecDepth 4000

theorem Cl.put {w : World} {g : Nat} {v : Value} (h : Cl w g v) (x : Value) : Cl (w.setCell ⟨g, 0, none⟩ x) g x :=
  ⟨World.cell?_setCell_same' _ _ _ (by rw [h.1]; rfl), by rw [World.frozen?_setCell]; exact h.2.1, Nat.lt_of_lt_of_le h.2.2 (grown_set w ⟨g, 0, none⟩ x).size⟩

theorem step_appG {α : Type} {f : α → Value} {P : Program} {w : World} {ops : Array Oper} {o : Oper} {a : Act} {K : Act → World → Prop} {Q : Exit → Act → World → Prop} {X : Prop} (hg : o.guard = none) (s x : Operand) (t E : TypeId)
    (ho : o.op = .call { callee := .builtin .append, args := #[s, x], argTypes := #[t, t] })
    (B : Nat) (i : TypeInfo) (z : Value) (by_ : Nat) (ht : P.underlying t = some (.slice E)) (hi : P.info? E = some i) (hz : i.zero = some z) (h1 : i.size = 1) (h8 : i.bytes = by_) (hzc : z.cells.size = 1) (hb16 : by_ ≤ 100)
    (n : Nat) (A : Option Addr) (c : Nat) (zs : List α) (g : Nat) (y : α) (hy1 : (f y).oneCell' = true) (hs : a.eval s = .slice A n c) (hx : a.eval x = .slice (some ⟨g, 0, none⟩) 1 1) (hn : zs.length = n)
    (hc : w.cell? ⟨g, 0, none⟩ = some (f y)) (hown : OwnG f E B w A c zs) (hlen : n < 1000000) (hB : B ≤ w.heap.size)
    (h : ∀ A' c' w', OwnG f E B w' A' c' (zs ++ [y]) → w.grownBy w' (Value.slice A n c).ownBlock → Below B w w' → w.heap.size ≤ w'.heap.size → K (a.put o.dst (.slice A' (n + 1) c')) w') :
    if Region.wanted o (yielded ops a.tmps) = true then Oper.wp P o a w K Q else X := by
  have hw : Region.wanted o (yielded ops a.tmps) = true := by simp [Region.wanted, hg]
  rw [if_pos hw]
  subst hn
  refine wp_append_own _ s x t ho B E i z 1 by_ ht hi hz h1 h8 hzc (by decide) (.slice A zs.length c) zs.length (zs.map f) hs hown.2 ⟨g, 0, none⟩ 1 1 [f y] hx rfl ?_ ?_ (by unfold maxLen; omega) ?_ hB ?_
  · intro j u hj
    match j, hj with
    | 0, hj =>
      simp at hj; subst hj
      have : (⟨g, 0, none⟩ : Addr).add 0 = ⟨g, 0, none⟩ := by simp [Addr.add]
      rw [this]; exact hc
  · intro u hu; simp at hu; subst hu; exact hy1
  · have := Nat.mul_le_mul (show zs.length + 1 ≤ 1000000 by omega) hb16
    omega
  · intro v' w' ho' hgr hnil
    have hlt := hown.2.lt
    have hbel : Below B w w' := (Below.refl _ _).grown hgr hB (fun k hk => (hlt k hk).1)
    rcases ho'.2 with ⟨_, h0⟩ | ⟨g, cap, cur, hv, h2⟩
    · omega
    · subst hv
      refine h _ _ _ ⟨by simp; omega, ?_⟩ hgr hbel hbel.size
      simpa using ho'

theorem OwnG.cut0 {α : Type} {f : α → Value} {E : TypeId} {B : Nat} {w : World} {A : Option Addr} {c : Nat} {zs : List α} (h : OwnG f E B w A c zs) : OwnG f E B w A c [] := by
  refine ⟨by simp, ?_⟩
  rcases h.2.2 with ⟨h1, h2⟩ | ⟨g, cap, cur, hv, h3, h4, h5, h6, h7, h8⟩
  · simp only [Value.slice.injEq] at h1
    obtain ⟨rfl, _, rfl⟩ := h1
    exact World.ownsRow_nil _ _ _ _
  · simp only [Value.slice.injEq] at hv
    obtain ⟨rfl, _, rfl⟩ := hv
    exact ⟨by simp, .inr ⟨g, c, cur, rfl, h3, h4, by simp, h6, h7, by simp⟩⟩

def Sizes (cs : List ByteArray) (m : Nat) : Prop := ∀ s ∈ cs, s.size ≤ m
theorem Sizes.snoc {cs : List ByteArray} {m : Nat} {s : ByteArray} (h : Sizes cs m) (hs : s.size ≤ m) : Sizes (cs ++ [s]) m := by
  intro x hx
  rcases List.mem_append.1 hx with h1 | h1
  · exact h x h1
  · simp at h1; subst h1; exact hs
theorem Sizes.set {cs : List ByteArray} {m k : Nat} {s : ByteArray} (h : Sizes cs m) (hs : s.size ≤ m) : Sizes (cs.set k s) m := by
  intro x hx
  rcases List.mem_or_eq_of_mem_set hx with h1 | rfl
  · exact h x h1
  · exact hs
theorem Sizes.more {cs : List ByteArray} {m m' : Nat} (h : Sizes cs m) (hm : m ≤ m') : Sizes cs m' := fun s hs => Nat.le_trans (h s hs) hm

/-- An engine is drawn: a list of the call's own of 1 to 7 strings. -/
def DrawnE (g : Nat) (P : Int) (w : World) (e : Ending) (w' : World) : Prop :=
  ∃ A c cs, e = .returned (.agg #[.slice A cs.length c]) ∧ (1 ≤ cs.length ∧ cs.length ≤ 7 ∧ Sizes cs 12) ∧ OwnS 9 w.heap.size w' A c cs ∧ Rdr w' g P ∧ w.grownBy w' (some g)

def someNums : List Int := [3, 4, 1, 2, 5, 7]
/-- What the loop of l3Some keeps. -/
def SomeR (w : World) (g : Nat) (P : Int) (n0 k : Nat) (A : Option Addr) (c : Nat) (cs : List ByteArray) (wr : World) : Prop :=
  cs.length + k = n0 ∧ Sizes cs 12 ∧ OwnS 9 (w.heap.size + 2) wr A c cs ∧ Cl wr w.heap.size (.slice none 0 0) ∧ Cl wr (w.heap.size + 1) (.slice A cs.length c) ∧ Rdr wr g (P + 2 + 50 * (cs.length : Int)) ∧ Only w.heap.size g w wr

set_option maxHeartbeats 3200000 in
theorem l3Some_any (g : Nat) (P : Int) (w : World) (h : Rdr w g P) (hP : P ≤ 1000) :
    Calls Try.prog 84 #[.pointer (some ⟨g, 0, none⟩)] w fun e w' => DrawnE g (P + 400) w e w' := by
  obtain ⟨i0, hi, hz0, hz1, hz2⟩ := info_parts infoS
  have hgw := h.lt
  have C0 := hd (Cs.two w (.slice none 0 0) (.slice none 0 0) 36 36)
  have R0 := hd (h.below C0.out.1 hgw)
  have hsz0 : ((w.alloc (.cells #[.slice none 0 0] 36)).alloc (.cells #[.slice none 0 0] 36)).heap.size = w.heap.size + 2 := by simp
  have hgw0 : g < ((w.alloc (.cells #[.slice none 0 0] 36)).alloc (.cells #[.slice none 0 0] 36)).heap.size := by rw [hsz0]; omega
  have N0 := hd (Only.below (g := g) C0.out.1 (Nat.le_refl _))
  clear h
  go_enter Try.func84, Try.ntmps84
  go_wp2_with fail
  refine (l1Any_any g P _ R0.out (by omega)).mono ?_
  rintro e w1 ⟨W, rfl, hW, r1, g1⟩
  obtain ⟨hW1, hW12⟩ := hW
  obtain ⟨W, rfl⟩ := Int.eq_ofNat_of_zero_le (show 0 ≤ W by omega)
  have hsz1 : w.heap.size + 2 ≤ w1.heap.size := by have := g1.size; rw [hsz0] at this; exact this
  have Ca := hd ((C0.out.2 _ (List.mem_cons_self)).1.other g1 (by simp; omega))
  have Cb := hd ((C0.out.2 _ (List.mem_cons_of_mem _ List.mem_cons_self)).1.other g1 (by simp; omega))
  have N1 := hd (N0.out.trans (Only.grown (B := w.heap.size) g1 (by rw [hsz0]; omega)))
  have R1 := hd r1
  clear r1 g1 hsz0 hgw0
  have hgw1 : g < w1.heap.size := by omega
  have Hlit : Hid (OwnI 3 w1.heap.size (w1.alloc (.cells #[.int .i64 3, .int .i64 4, .int .i64 1, .int .i64 2, .int .i64 5, .int .i64 7] 3)) (some ⟨w1.heap.size, 0, none⟩) 6 someNums) := hd
    ⟨by simp [someNums], World.ownsRow_lit _ #[.int .i64 3, .int .i64 4, .int .i64 1, .int .i64 2, .int .i64 5, .int .i64 7] 6 (Nat.le_refl _) (by simp [maxLen]) rfl⟩
  have Ball := hd ((Below.refl w1.heap.size w1).alloc (Nat.le_refl _) (.cells #[.int .i64 3, .int .i64 4, .int .i64 1, .int .i64 2, .int .i64 5, .int .i64 7] 3))
  have Ra := hd (R1.out.below Ball.out hgw1)
  have Hbl : Hid (0 < someNums.length) := hd (by simp [someNums])
  go_wp2_with fail
  refine (num_any g (P + 1) _ 6 someNums _ Ra.out (by omega) Hlit.out.si (Hlit.out.off hgw1) Hbl.out).mono ?_
  rintro e w2 ⟨x, rfl, hx, r2, g2⟩
  obtain ⟨n0, rfl, hn1, hn7⟩ : ∃ n : Nat, x = n ∧ 1 ≤ n ∧ n ≤ 7 := by
    unfold someNums at hx
    simp only [List.mem_cons, List.not_mem_nil, or_false] at hx
    exact ⟨x.toNat, by omega, by omega, by omega⟩
  have Ca := hd ((Ca.out.below Ball.out).other g2 (by simp; omega))
  have Cb := hd ((Cb.out.below Ball.out).other g2 (by simp; omega))
  have N2 := hd ((N1.out.trans (Only.below (g := g) Ball.out (by omega))).trans (Only.grown (B := w.heap.size) g2 (by simp; omega)))
  have hsz2 : w.heap.size + 2 ≤ w2.heap.size := by have := g2.size; simp at this; omega
  have HR : Hid (SomeR w g P n0 n0 none 0 [] w2) := hd ⟨by simp, (fun s hs => by simp at hs), OwnG.nil_ _ _ _ _, Cb.out, Ca.out, r2.more (by simp; omega), N2.out⟩
  clear hx r2 g2
  go_wp2
  go_loopw [5] (fun i wr => ∃ (k : Nat) (A' : Option Addr) (c' : Nat) (cs : List ByteArray), i = .int .i64 k ∧ SomeR w g P n0 k A' c' cs wr) (fun i _ => (intOf i).toNat)
  case atStart => exact ⟨n0, none, 0, [], rfl, HR.out⟩
  case round =>
    clear HR N2 Ca Cb N1 N0 R1 R0 Ra Ball Hlit Hbl C0
    obtain ⟨k, A', c', cs, rfl, hr⟩ := hrel
    obtain ⟨r1, r2, r3, r4, r5, r6, r7⟩ := hr
    have Sz := hd r2
    have Own := hd r3
    have Cr := hd r4
    have Ce := hd r5
    have Rd := hd r6
    have Nn := hd r7
    have hszr : w.heap.size ≤ wr.heap.size := r7.size
    clear r2 r3 r4 r5 r6 r7
    by_cases hk : 0 < k
    · obtain ⟨k, rfl⟩ : ∃ j, k = j + 1 := ⟨k - 1, by omega⟩
      go_wp2_with fail
      refine (l1Some_any g W _ _ Rd.out (by omega) (by omega)).mono ?_
      rintro e w3 ⟨s, rfl, hs, r3, g3⟩
      have Own3 := hd (Own.out.keep_lo g3 (fun r hr => by simp at hr; omega))
      have Cr3 := hd (Cr.out.other g3 (by omega))
      have Ce3 := hd (Ce.out.other g3 (by omega))
      have Nn3 := hd (Nn.out.trans (Only.grown (B := w.heap.size) g3 hszr))
      have Rd3 := hd r3
      have hsz3 : w.heap.size ≤ w3.heap.size := Nn3.out.size
      clear r3 g3
      go_wp2_with fail
      refine (pick_any g _ 3 _ Rd3.out (by omega)).mono ?_
      rintro e w4 ⟨v, rfl, hv, r4, g4⟩
      have Own4 := hd (Own3.out.keep_lo g4 (fun r hr => by simp at hr; omega))
      have Cr4 := hd (Cr3.out.other g4 (by omega))
      have Ce4 := hd (Ce3.out.other g4 (by omega))
      have Nn4 := hd (Nn3.out.trans (Only.grown (B := w.heap.size) g4 hsz3))
      have Rd4 := hd r4
      have hsz4 : w.heap.size ≤ w4.heap.size := Nn4.out.size
      clear hv r4 g4
      by_cases hv0 : 0 < v
      · go_wp2_with fail
        refine (pick_any g _ 256 _ Rd4.out (by omega)).mono ?_
        rintro e w5 ⟨u, rfl, hu, r5, g5⟩
        obtain ⟨hu0, hu1⟩ := hu
        have hu2 := hu1 (by omega)
        have Own5 := hd (Own4.out.keep_lo g5 (fun r hr => by simp at hr; omega))
        have Cr5 := hd (Cr4.out.other g5 (by omega))
        have Ce5 := hd (Ce4.out.other g5 (by omega))
        have Nn5 := hd (Nn4.out.trans (Only.grown (B := w.heap.size) g5 hsz4))
        have Rd5 := hd r5
        have hsz5 : w.heap.size ≤ w5.heap.size := Nn5.out.size
        have hg5 : g < w5.heap.size := by omega
        clear hu1 r5 g5
        go_wp2_with fail
        refine (l1Show_any _ W _ (by omega)).mono ?_
        rintro e w6 ⟨rfl, b6⟩
        have hs6 : (showC W (u - 100)).size ≤ 12 := by rw [showC_size]; omega
        obtain ⟨s6, hs6e⟩ : ∃ s6, s6 = showC W (u - 100) := ⟨_, rfl⟩
        rw [← hs6e] at hs6 ⊢
        have Own6 := hd (Own5.out.below b6)
        have Cr6 := hd (Cr5.out.below b6)
        have Ce6 := hd (Ce5.out.below b6)
        have Nn6 := hd (Nn5.out.trans (Only.below (g := g) b6 hsz5))
        have Rd6 := hd (Rd5.out.below b6 hg5)
        have hsz6 : w.heap.size + 2 ≤ w6.heap.size := by have := Ce6.out.2.2; omega
        have Sz6 := hd (Sz.out.snoc hs6)
        clear b6 hs6e
        obtain ⟨c1, f1, -⟩ := Ce6.out
        obtain ⟨c2, f2, -⟩ := Cr6.out
        go_wp2_with (at_builtin; refine wpList_appG (f := Value.string) rfl _ _ 30 9 rfl (w.heap.size + 2) i0 (.string ByteArray.empty) 16 Try.underlying30 hi hz0 hz1 hz2 rfl (by decide) cs.length A' c' cs w6.heap.size s6 rfl rfl rfl rfl (new_cell _ _ _) (Own6.out.alloc _) (by omega) (by simp; omega) ?_; intro A5 c5 w7 own7 gr7 b7 hz7; have Own7 := hd own7; have b67 := ((Below.refl (w.heap.size + 2) w6).alloc hsz6 (.cells #[.string s6] 9)).trans b7; have Cr7 := hd (Cr6.out.lowB b67 (by omega)); have Ce7 := hd (Ce6.out.lowB b67 (by omega)); have Nn7 := hd (Nn6.out.trans (Only.below (g := g) b67 (by omega))); have Rd7 := hd (Rd6.out.below b67 (by omega)); clear own7 gr7 b7 b67 c1 f1 c2 f2; obtain ⟨c1, f1, -⟩ := Ce7.out; obtain ⟨c2, f2, -⟩ := Cr7.out)
        have bs := (Below.refl (w.heap.size + 1) w7).setCell (p := ⟨w.heap.size + 1, 0, none⟩) (Nat.le_refl _) (.slice A5 (cs.length + 1) c5)
        have Hn : Hid (SomeR w g P n0 k A5 c5 (cs ++ [s6]) (w7.setCell ⟨w.heap.size + 1, 0, none⟩ (.slice A5 (cs.length + 1) c5))) := hd
          ⟨by simp; omega, Sz6.out, Own7.out.keep_lo (grown_set w7 ⟨w.heap.size + 1, 0, none⟩ (.slice A5 (cs.length + 1) c5)) (fun r hr => by simp at hr; omega), Cr7.out.other (grown_set w7 ⟨w.heap.size + 1, 0, none⟩ (.slice A5 (cs.length + 1) c5)) (by simp), by simpa using Ce7.out.put (.slice A5 (cs.length + 1) c5), (Rd7.out.below bs (by omega)).more (by simp; omega), Nn7.out.trans (Only.below (g := g) bs (by omega))⟩
        clear bs
        go_roundw
        case rel => exact ⟨k, A5, c5, _, by go_num, Hn.out⟩
        case measure => simp [intOf] <;> omega
      · have hs6 : s.size ≤ 12 := by omega
        have Rd6 := hd Rd4.out
        have hsz6 : w.heap.size + 2 ≤ w4.heap.size := by have := Ce4.out.2.2; omega
        have Sz6 := hd (Sz.out.snoc hs6)
        obtain ⟨c1, f1, -⟩ := Ce4.out
        obtain ⟨c2, f2, -⟩ := Cr4.out
        go_wp2_with (at_builtin; refine wpList_appG (f := Value.string) rfl _ _ 30 9 rfl (w.heap.size + 2) i0 (.string ByteArray.empty) 16 Try.underlying30 hi hz0 hz1 hz2 rfl (by decide) cs.length A' c' cs w4.heap.size s rfl rfl rfl rfl (new_cell _ _ _) (Own4.out.alloc _) (by omega) (by simp; omega) ?_; intro A5 c5 w7 own7 gr7 b7 hz7; have Own7 := hd own7; have b67 := ((Below.refl (w.heap.size + 2) w4).alloc hsz6 (.cells #[.string s] 9)).trans b7; have Cr7 := hd (Cr4.out.lowB b67 (by omega)); have Ce7 := hd (Ce4.out.lowB b67 (by omega)); have Nn7 := hd (Nn4.out.trans (Only.below (g := g) b67 (by omega))); have Rd7 := hd (Rd6.out.below b67 (by omega)); clear own7 gr7 b7 b67 c1 f1 c2 f2; obtain ⟨c1, f1, -⟩ := Ce7.out; obtain ⟨c2, f2, -⟩ := Cr7.out)
        have bs := (Below.refl (w.heap.size + 1) w7).setCell (p := ⟨w.heap.size + 1, 0, none⟩) (Nat.le_refl _) (.slice A5 (cs.length + 1) c5)
        have Hn : Hid (SomeR w g P n0 k A5 c5 (cs ++ [s]) (w7.setCell ⟨w.heap.size + 1, 0, none⟩ (.slice A5 (cs.length + 1) c5))) := hd
          ⟨by simp; omega, Sz6.out, Own7.out.keep_lo (grown_set w7 ⟨w.heap.size + 1, 0, none⟩ (.slice A5 (cs.length + 1) c5)) (fun r hr => by simp at hr; omega), Cr7.out.other (grown_set w7 ⟨w.heap.size + 1, 0, none⟩ (.slice A5 (cs.length + 1) c5)) (by simp), by simpa using Ce7.out.put (.slice A5 (cs.length + 1) c5), (Rd7.out.below bs (by omega)).more (by simp; omega), Nn7.out.trans (Only.below (g := g) bs (by omega))⟩
        clear bs
        go_roundw
        case rel => exact ⟨k, A5, c5, _, by go_num, Hn.out⟩
        case measure => simp [intOf] <;> omega
    · obtain rfl : k = 0 := by omega
      obtain ⟨c1, f1, -⟩ := Ce.out
      obtain ⟨c2, f2, -⟩ := Cr.out
      have bs := (Below.refl w.heap.size wr).setCell (p := ⟨w.heap.size, 0, none⟩) (Nat.le_refl _) (.slice A' cs.length c')
      have Hn : Hid (DrawnE g (P + 400) w (.returned (.agg #[.slice A' cs.length c'])) (wr.setCell ⟨w.heap.size, 0, none⟩ (.slice A' cs.length c'))) := hd
        ⟨A', c', cs, rfl, ⟨by omega, by omega, Sz.out⟩, (Own.out.keep_lo (grown_set wr ⟨w.heap.size, 0, none⟩ (.slice A' cs.length c')) (fun r hr => by simp at hr; omega)).low (by omega), (Rd.out.below bs hgw).more (by omega), (Nn.out.trans (Only.below (g := g) bs (Nat.le_refl _))).grownBy⟩
      clear bs
      go_wp2
      exact bodyPost_ret (v := .agg #[.slice A' cs.length c']) (by simp [results, Try.results84, c2, go_sem]) rfl Hn.out

end Go.Proofs.Ytkmblobfamhoiaa

/- Contracts of what draws engines: some list of strings, and what the draws of the laws return. -/
namespace Go.Proofs.Ytkmblobfamhoiaa
open Go.RowKit
set_option maxRecDepth 4000

/-- A list of strings of the call's own, from B on; no block below B has changed but the source. -/
def SpoiledE (B g : Nat) (P : Int) (w : World) (e : Ending) (w' : World) : Prop :=
  ∃ A c cs, e = .returned (.agg #[.slice A cs.length c]) ∧ (cs.length ≤ 8 ∧ Sizes cs 200) ∧ OwnS 9 B w' A c cs ∧ Rdr w' g P ∧ Only B g w w'

def cellLen (w : World) (g : Nat) : Nat := sliceLen ((w.cell? ⟨g, 0, none⟩).getD (.bool false))
theorem Cl.len {w : World} {g n c : Nat} {A : Option Addr} (h : Cl w g (.slice A n c)) : cellLen w g = n := by
  rw [cellLen, h.1]; rfl

/-- What the loop of l3Bad keeps. -/
def BadR (w : World) (B g : Nat) (P : Int) (A : Option Addr) (c : Nat) (cs : List ByteArray) (wr : World) : Prop :=
  (1 ≤ cs.length ∧ cs.length ≤ 8) ∧ Sizes cs 200 ∧ OwnS 9 B wr A c cs ∧ Cl wr w.heap.size (.slice A cs.length c) ∧ Cl wr (w.heap.size + 1) (.slice none 0 0) ∧ Rdr wr g P ∧ Only B g w wr

theorem OwnG.keep_off {α : Type} {f : α → Value} {E : TypeId} {B : Nat} {w w' : World} {A : Option Addr} {c r : Nat} {xs : List α} (h : OwnG f E B w A c xs) (hg : w.grownBy w' (some r)) (hr : ∀ g, (Value.slice A xs.length c).ownBlock = some g → ¬ r = g) : OwnG f E B w' A c xs := by
  refine ⟨h.1, h.2.kept hg ?_⟩
  cases hv : (Value.slice A xs.length c).ownBlock with
  | none => exact .inl rfl
  | some g =>
    right
    intro e
    exact hr g hv (by injection e with e; exact e.symm)

set_option maxHeartbeats 3200000 in
theorem l3Bad_any (B g : Nat) (P : Int) (A : Option Addr) (c n : Nat) (cs : List ByteArray) (w : World) (hn : cs.length = n) (h : Rdr w g P) (hP : P ≤ 2000) (ho : OwnS 9 B w A c cs) (hg : g < B) (hB : B ≤ w.heap.size) (hl : 1 ≤ n) (hl' : n ≤ 7) (hs : Sizes cs 12) :
    Calls Try.prog 88 #[.pointer (some ⟨g, 0, none⟩), .agg #[.slice A n c]] w fun e w' => SpoiledE B g (P + 10) w e w' := by
  obtain ⟨i0, hi, hz0, hz1, hz2⟩ := info_parts infoS
  have hgw := h.lt
  have hcap := ho.cap
  rw [hn] at hcap
  have Hn := hd hn
  have Sz := hd hs
  have C0 := hd (Cs.two w (.slice A n c) (.slice none 0 0) 36 36)
  have R0 := hd (h.below C0.out.1 hgw)
  have O0 := hd ((ho.alloc (.cells #[.slice A n c] 36)).alloc (.cells #[.slice none 0 0] 36))
  have N0 := hd (Only.below (g := g) C0.out.1 hB)
  obtain ⟨gp, hA, hgp1, hgp2⟩ := ho.addr (by rw [hn]; omega)
  subst hA
  have hsz0 : ((w.alloc (.cells #[.slice (some ⟨gp, 0, none⟩) n c] 36)).alloc (.cells #[.slice none 0 0] 36)).heap.size = w.heap.size + 2 := by simp
  obtain ⟨w0, hw0⟩ : ∃ w0, w0 = ((w.alloc (.cells #[.slice (some ⟨gp, 0, none⟩) n c] 36)).alloc (.cells #[.slice none 0 0] 36)) := ⟨_, rfl⟩
  rw [← hw0] at C0 R0 O0 N0 hsz0
  have Hw0 := hd hw0
  obtain ⟨⟨c1, f1, -⟩, ⟨c2, f2, -⟩⟩ := C0.out.at2
  rw [hw0] at c1 f1 c2 f2
  clear h ho hn hs hw0
  go_enter Try.func88, Try.ntmps88
  go_wp2_with fail
  rw [← Hw0.out]
  refine (pick_any g P n _ R0.out (by omega)).mono ?_
  rintro e w1 ⟨k, rfl, hk, r1, g1⟩
  obtain ⟨hk0, hk1⟩ := hk
  have hk2 := hk1 (by omega)
  obtain ⟨k, rfl⟩ := Int.eq_ofNat_of_zero_le hk0
  have hkz : k < n := by omega
  have Ca := hd ((C0.out.2 (w.heap.size + 1, .slice none 0 0) (by simp)).1.other g1 (by simp; omega))
  have Cb := hd ((C0.out.2 (w.heap.size, .slice (some ⟨gp, 0, none⟩) n c) (by simp)).1.other g1 (by simp; omega))
  have O1 := hd (O0.out.keep_lo g1 (fun r hr => by simp at hr; omega))
  have N1 := hd (N0.out.trans (Only.grown (B := B) g1 (by omega)))
  have R1 := hd r1
  have hsz1 : w.heap.size + 2 ≤ w1.heap.size := by have := g1.size; omega
  clear hk1 hk0 r1 g1 c1 f1 c2 f2
  go_wp2_with fail
  refine (pick_any g (P + 1) 30 _ R1.out (by omega)).mono ?_
  rintro e w2 ⟨v, rfl, hv, r2, g2⟩
  have Ca := hd (Ca.out.other g2 (by omega))
  have Cb := hd (Cb.out.other g2 (by omega))
  have O2 := hd (O1.out.keep_lo g2 (fun r hr => by simp at hr; omega))
  have N2 := hd (N1.out.trans (Only.grown (B := B) g2 (by omega)))
  have R2 := hd r2
  have hsz2 : w.heap.size + 2 ≤ w2.heap.size := by have := g2.size; omega
  have hg2 : g < w2.heap.size := by omega
  clear hv r2 g2 O1 N1 R1
  obtain ⟨c1, f1, -⟩ := Ca.out
  obtain ⟨c2, f2, -⟩ := Cb.out
  by_cases h0 : v = 0
  · subst h0
    obtain ⟨g', s, hs, hg', hcs, hfs⟩ := O2.out.at_ (k := k) (by rw [Hn.out]; exact hkz)
    simp only [Option.some.injEq, Addr.mk.injEq, and_true] at hg'
    subst hg'
    have hss : s.size ≤ 12 := Sz.out s (List.mem_of_getElem? hs)
    have hsz : (s ++ (⟨#[48]⟩ : ByteArray)).size = s.size + 1 := ByteArray.size_append
    have Hss : Hid ((s ++ (⟨#[48]⟩ : ByteArray)).size ≤ 100) := hd (by omega)
    have e0 : (k : Int) < n := by omega
    have hbig : ¬ 9223372036854775807 < s.size + 1 := by omega
    have hlk : Hid (k < cs.length) := hd (by rw [Hn.out]; exact hkz)
    clear hs
    go_wp2
    go_region_law ((go_simp; go_at_call 141; refine (l1Bad_any g (P + 1 + 1) (s ++ (⟨#[48]⟩ : ByteArray)) w2.drew R2.out (by omega) Hss.out).mono ?_; rintro e w3 ⟨t, rfl, ht, r3, g3⟩; have O3 := hd (O2.out.drew.keep_lo g3 (fun r hr => by simp at hr; omega)); have Ca3 := hd (Ca.out.drew.other g3 (by omega)); have Cb3 := hd (Cb.out.drew.other g3 (by omega)); have N3 := hd ((N2.out.trans (Only.grown (B := B) (only_draws (a := w2) ⟨rfl, rfl, rfl, Nat.le_refl _, fun _ _ _ => rfl⟩ 1) (by omega))).trans (Only.grown (B := B) g3 (show B ≤ w2.heap.size by omega))); have R3 := hd r3; have Ht := hd ht; obtain ⟨g', o, ho, hg', hco, hfo⟩ := O3.out.at_ (k := k) hlk.out; simp only [Option.some.injEq, Addr.mk.injEq, and_true] at hg'; subst hg'; clear ht r3 g3 ho; obtain ⟨c3, f3, -⟩ := Ca3.out; obtain ⟨c4, f4, -⟩ := Cb3.out))
    all_goals
      clear c1 f1 c2 f2
      have O4 := hd (O3.out.set k t)
      have bs := (Below.refl B w3).setCell (p := ⟨gp, k, none⟩) hgp1 (.string t)
      have Ca4 := hd (Ca3.out.other (grown_set w3 ⟨gp, k, none⟩ (.string t)) (by simp; omega))
      have Cb4 := hd (Cb3.out.other (grown_set w3 ⟨gp, k, none⟩ (.string t)) (by simp; omega))
      have bs2 := (Below.refl (w.heap.size + 1) (w3.setCell ⟨gp, k, none⟩ (.string t))).setCell (p := ⟨w.heap.size + 1, 0, none⟩) (Nat.le_refl _) (.slice (some ⟨gp, 0, none⟩) n c)
      have Hlen : Hid ((cs.set k t).length = n) := hd (by rw [List.length_set]; exact Hn.out)
      have Hf : Hid (SpoiledE B g (P + 10) w (.returned (.agg #[.slice (some ⟨gp, 0, none⟩) n c])) ((w3.setCell ⟨gp, k, none⟩ (.string t)).setCell ⟨w.heap.size + 1, 0, none⟩ (.slice (some ⟨gp, 0, none⟩) n c))) := hd
        ⟨some ⟨gp, 0, none⟩, c, cs.set k t, by rw [Hlen.out], ⟨by rw [Hlen.out]; omega, (Sz.out.more (by omega)).set Ht.out⟩, O4.out.keep_hi (U := w.heap.size) (fun x hx => by simp [Value.ownBlock] at hx; omega) (grown_set _ ⟨w.heap.size + 1, 0, none⟩ _) (fun r hr => by simp at hr; omega), ((R3.out.below bs hg).below bs2 (by omega)).more (by omega), (N3.out.trans (Only.below (g := g) bs (Nat.le_refl _))).trans (Only.below (g := g) bs2 (by omega))⟩
      obtain ⟨d1, e1, -⟩ := Ca4.out
      obtain ⟨d2, e2, -⟩ := Cb4.out
      clear bs bs2 c3 f3 c4 f4 hcs hfs hco hfo
      go_wp2
      exact bodyPost_ret (v := .agg #[.slice (some ⟨gp, 0, none⟩) n c]) (by simp [results, Try.results88, d1, go_sem]) rfl Hf.out
  by_cases h1 : v = 1
  · subst h1
    have bs := (Below.refl w.heap.size w2).setCell (p := ⟨w.heap.size, 0, none⟩) (Nat.le_refl _) (.slice (some ⟨gp, 0, none⟩) 0 c)
    have bs2 := (Below.refl w.heap.size (w2.setCell ⟨w.heap.size, 0, none⟩ (.slice (some ⟨gp, 0, none⟩) 0 c))).setCell (p := ⟨w.heap.size + 1, 0, none⟩) (show w.heap.size ≤ w.heap.size + 1 by omega) (.slice (some ⟨gp, 0, none⟩) 0 c)
    have O3 := hd ((O2.out.cut0.keep_hi (U := w.heap.size) (fun x hx => by simp [Value.ownBlock] at hx; omega) (grown_set w2 ⟨w.heap.size, 0, none⟩ (.slice (some ⟨gp, 0, none⟩) 0 c)) (fun r hr => by simp at hr; omega)).keep_hi (U := w.heap.size) (fun x hx => by simp [Value.ownBlock] at hx; omega) (grown_set _ ⟨w.heap.size + 1, 0, none⟩ (.slice (some ⟨gp, 0, none⟩) 0 c)) (fun r hr => by simp at hr; omega))
    have Hf : Hid (SpoiledE B g (P + 10) w (.returned (.agg #[.slice (some ⟨gp, 0, none⟩) 0 c])) ((w2.setCell ⟨w.heap.size, 0, none⟩ (.slice (some ⟨gp, 0, none⟩) 0 c)).setCell ⟨w.heap.size + 1, 0, none⟩ (.slice (some ⟨gp, 0, none⟩) 0 c))) := hd
      ⟨some ⟨gp, 0, none⟩, c, [], rfl, ⟨by simp, fun s hs => by simp at hs⟩, O3.out, ((R2.out.below bs (by omega)).below bs2 (by omega)).more (by omega), (N2.out.trans (Only.below (g := g) bs hB)).trans (Only.below (g := g) bs2 hB)⟩
    have Ca4 := hd (Ca.out.other (grown_set w2 ⟨w.heap.size, 0, none⟩ (.slice (some ⟨gp, 0, none⟩) 0 c)) (by simp))
    obtain ⟨d1, e1, -⟩ := Ca4.out
    clear bs bs2
    go_wp2
    exact bodyPost_ret (v := .agg #[.slice (some ⟨gp, 0, none⟩) 0 c]) (by simp [results, Try.results88, d1, go_sem]) rfl Hf.out
  by_cases h2 : v = 2
  · subst h2
    have HR : Hid (BadR w B g (P + 1 + 1) (some ⟨gp, 0, none⟩) c cs w2) := hd ⟨⟨by rw [Hn.out]; omega, by rw [Hn.out]; omega⟩, Sz.out.more (by omega), O2.out, by rw [Hn.out]; exact Cb.out, Ca.out, R2.out, N2.out⟩
    clear O2 N2 R2
    go_wp2
    go_loopw [37] (fun _ wr => ∃ (A' : Option Addr) (c' : Nat) (ds : List ByteArray), BadR w B g (P + 1 + 1) A' c' ds wr) (fun _ wr => 8 - cellLen wr w.heap.size)
    case atStart => exact ⟨_, _, _, HR.out⟩
    case round =>
      clear HR Ca Cb c1 f1 c2 f2
      obtain ⟨A', c', ds, hr⟩ := hrel
      obtain ⟨⟨d1, d8⟩, r2, r3, r4, r5, r6, r7⟩ := hr
      have Sd := hd r2
      have Own := hd r3
      have Ce := hd r4
      have Cr := hd r5
      have Rd := hd r6
      have Nn := hd r7
      have hszr : w.heap.size + 2 ≤ wr.heap.size := r5.2.2
      have Hml := hd r4.len
      clear r2 r3 r4 r5 r6 r7
      obtain ⟨c1, f1, -⟩ := Ce.out
      obtain ⟨c2, f2, -⟩ := Cr.out
      by_cases hlt : ds.length < 8
      · obtain ⟨ga, s, hs, hA', hcs, hfs⟩ := Own.out.at_ (k := 0) (by omega)
        subst hA'
        have hss : s.size ≤ 200 := Sd.out s (List.mem_of_getElem? hs)
        have e0 : (0 : Int) < ds.length := by omega
        have e00 : 0 < ds.length := by omega
        clear hs
        have hga1 : ga ≠ w.heap.size := by
          intro e; subst e; rw [c1] at hcs; simp at hcs
        have hga2 : ga ≠ w.heap.size + 1 := by
          intro e; subst e; rw [c2] at hcs; simp at hcs
        have hne1 : ¬ w.heap.size = wr.heap.size := by omega
        have Cn1 := hd (Ce.out.drew.alloc (.cells #[.string s] 9))
        have Cn2 := hd (Cr.out.drew.alloc (.cells #[.string s] 9))
        have cn1 := (Ce.out.alloc (.cells #[.string s] 9)).1
        go_wp2
        go_region_law (refine step_appG (f := Value.string) rfl _ _ 30 9 rfl B i0 (.string ByteArray.empty) 16 Try.underlying30 hi hz0 hz1 hz2 rfl (by decide) ds.length (some ⟨ga, 0, none⟩) c' ds wr.heap.size s rfl rfl rfl rfl (new_cell _ _ _) (Own.out.drew.alloc _) (by omega) (by simp; omega) ?_; intro A5 c5 w7 own7 gr7 b7 hz7; have Ce7 := hd (Cn1.out.other gr7 hga1); have Cr7 := hd (Cn2.out.other gr7 hga2); have Own7 := hd own7; have Bw7 := hd (((Below.refl B wr).drew.alloc (by simp; omega) (.cells #[.string s] 9)).trans b7); obtain ⟨c3, f3, -⟩ := Ce7.out; obtain ⟨c4, f4, -⟩ := Cr7.out; clear own7 gr7 b7)
        all_goals
          clear c1 f1 c2 f2 cn1 hcs hfs
          obtain ⟨g5, s5, hs5, hA5, hcs5, hfs5⟩ := Own7.out.at_ (k := 0) (by simp)
          subst hA5
          have hg51 : g5 ≠ w.heap.size := by
            intro e; subst e; rw [c3] at hcs5; simp at hcs5
          have hg52 : g5 ≠ w.heap.size + 1 := by
            intro e; subst e; rw [c4] at hcs5; simp at hcs5
          have bs := (Below.refl w.heap.size w7).setCell (p := ⟨w.heap.size, 0, none⟩) (Nat.le_refl _) (.slice (some ⟨g5, 0, none⟩) (ds.length + 1) c5)
          have Hn2 : Hid (BadR w B g (P + 1 + 1) (some ⟨g5, 0, none⟩) c5 (ds ++ [s]) (w7.setCell ⟨w.heap.size, 0, none⟩ (.slice (some ⟨g5, 0, none⟩) (ds.length + 1) c5))) := hd
            ⟨⟨by simp, by simp; omega⟩, Sd.out.snoc hss, Own7.out.keep_off (grown_set w7 ⟨w.heap.size, 0, none⟩ (.slice (some ⟨g5, 0, none⟩) (ds.length + 1) c5)) (fun x hx => by simp [Value.ownBlock] at hx; subst hx; simpa using fun e => hg51 e.symm), by simpa using Ce7.out.put (.slice (some ⟨g5, 0, none⟩) (ds.length + 1) c5), Cr7.out.other (grown_set w7 ⟨w.heap.size, 0, none⟩ _) (by simp), (Rd.out.below Bw7.out hg).below bs (by omega), (Nn.out.trans (Only.below (g := g) Bw7.out (Nat.le_refl _))).trans (Only.below (g := g) bs hB)⟩
          have Hml2 := hd Hn2.out.2.2.2.1.len
          clear bs hs5 hcs5 hfs5 c3 f3 c4 f4
          go_wp2
          go_roundw
          case rel => exact ⟨_, _, _, Hn2.out⟩
          case measure => rw [Hml.out, Hml2.out]; simp; omega
      · obtain ⟨ga, s, hs, hA', hcs, hfs⟩ := Own.out.at_ (k := 0) (by omega)
        subst hA'
        have hga2 : ga ≠ w.heap.size + 1 := by
          intro e; subst e; rw [c2] at hcs; simp at hcs
        have bs := (Below.refl w.heap.size wr).setCell (p := ⟨w.heap.size + 1, 0, none⟩) (show w.heap.size ≤ w.heap.size + 1 by omega) (.slice (some ⟨ga, 0, none⟩) ds.length c')
        have Hf : Hid (SpoiledE B g (P + 10) w (.returned (.agg #[.slice (some ⟨ga, 0, none⟩) ds.length c'])) (wr.setCell ⟨w.heap.size + 1, 0, none⟩ (.slice (some ⟨ga, 0, none⟩) ds.length c'))) := hd
          ⟨_, _, ds, rfl, ⟨d8, Sd.out⟩, Own.out.keep_off (grown_set wr ⟨w.heap.size + 1, 0, none⟩ (.slice (some ⟨ga, 0, none⟩) ds.length c')) (fun x hx => by simp [Value.ownBlock] at hx; subst hx; simpa using fun e => hga2 e.symm), (Rd.out.below bs (by omega)).more (by omega), Nn.out.trans (Only.below (g := g) bs hB)⟩
        clear bs hs hcs hfs
        go_wp2
        exact bodyPost_ret (v := .agg #[.slice (some ⟨ga, 0, none⟩) ds.length c']) (by simp [results, Try.results88, c2, go_sem]) rfl Hf.out
  · have e0 : (v == 0) = false := by simp [h0]
    have e1 : (v == 1) = false := by simp [h1]
    have e2 : (v == 2) = false := by simp [h2]
    have bs := (Below.refl (w.heap.size + 1) w2).setCell (p := ⟨w.heap.size + 1, 0, none⟩) (Nat.le_refl _) (.slice (some ⟨gp, 0, none⟩) n c)
    have Hf : Hid (SpoiledE B g (P + 10) w (.returned (.agg #[.slice (some ⟨gp, 0, none⟩) n c])) (w2.setCell ⟨w.heap.size + 1, 0, none⟩ (.slice (some ⟨gp, 0, none⟩) n c))) := hd
      ⟨some ⟨gp, 0, none⟩, c, cs, by rw [Hn.out], ⟨by rw [Hn.out]; omega, Sz.out.more (by omega)⟩, O2.out.keep_hi (U := w.heap.size) (fun x hx => by simp [Value.ownBlock] at hx; omega) (grown_set _ ⟨w.heap.size + 1, 0, none⟩ _) (fun r hr => by simp at hr; omega), (R2.out.below bs (by omega)).more (by omega), N2.out.trans (Only.below (g := g) bs (by omega))⟩
    clear h0 h1 h2 bs
    go_wp2
    exact bodyPost_ret (v := .agg #[.slice (some ⟨gp, 0, none⟩) n c]) (by simp [results, Try.results88, c1, go_sem]) rfl Hf.out

end Go.Proofs.Ytkmblobfamhoiaa

/- Contracts of the draws of engines: some list of strings, of the call's own. -/
namespace Go.Proofs.Ytkmblobfamhoiaa
open Go.RowKit
set_option maxRecDepth 4000

theorem Cl.only {B g r : Nat} {w w' : World} {v : Value} (h : Cl w r v) (nn : Only B g w w') (hr : r < B) (hg : r ≠ g) : Cl w' r v := by
  have hb : w'.heap[r]? = w.heap[r]? := nn.block r hr hg
  refine ⟨?_, ?_, Nat.lt_of_lt_of_le h.2.2 nn.size⟩
  · rw [World.cell?_of_block (w := w) hb]; exact h.1
  · rw [World.frozen?_of_block (w := w) hb]; exact h.2.1

/-- Some list of strings is drawn, the source further on. -/
def OpenE (g : Nat) (P : Int) (w : World) (e : Ending) (w' : World) : Prop :=
  ∃ A c cs, e = .returned (.agg #[.slice A cs.length c]) ∧ (cs.length ≤ 8 ∧ Sizes cs 200) ∧ OwnS 9 w.heap.size w' A c cs ∧ Rdr w' g P ∧ w.grownBy w' (some g)

set_option maxHeartbeats 800000 in
theorem l3Open_any (g : Nat) (P : Int) (w : World) (h : Rdr w g P) (hP : P ≤ 1000) :
    Calls Try.prog 92 #[.pointer (some ⟨g, 0, none⟩)] w fun e w' => OpenE g (P + 410) w e w' := by
  have hgw := h.lt
  have Ca := hd (Cl.new w (.slice none 0 0) 36)
  have B0 := hd ((Below.refl w.heap.size w).alloc (Nat.le_refl _) (.cells #[.slice none 0 0] 36))
  have R0 := hd (h.below B0.out hgw)
  have N0 := hd (Only.below (g := g) B0.out (Nat.le_refl _))
  have hsz0 : (w.alloc (.cells #[.slice none 0 0] 36)).heap.size = w.heap.size + 1 := by simp
  clear h
  go_enter Try.func92, Try.ntmps92
  go_wp2_with fail
  refine (l3Some_any g P _ R0.out (by omega)).mono ?_
  rintro e w1 ⟨A, c, cs, rfl, ⟨h1, h7, hs⟩, own, rd, gr⟩
  rw [hsz0] at own
  have Own := hd own
  have Rd := hd rd
  have Hs := hd hs
  have hsz1 : w.heap.size + 1 ≤ w1.heap.size := by have := gr.size; rw [hsz0] at this; exact this
  have N1 := hd (N0.out.trans (Only.grown (B := w.heap.size) gr (by rw [hsz0]; omega)))
  have Ca1 := hd (Ca.out.other gr (by omega))
  clear own rd gr hs hsz0
  go_wp2_with fail
  refine (l3Bad_any (w.heap.size + 1) g (P + 400) A c cs.length cs _ rfl Rd.out (by omega) Own.out (by omega) hsz1 h1 h7 Hs.out).mono ?_
  rintro e w2 ⟨A2, c2, ys, rfl, hy, own2, rd2, nn⟩
  have Ca2 := hd (Ca1.out.only nn (by omega) (by omega))
  obtain ⟨c1, f1, -⟩ := Ca2.out
  have bs := (Below.refl w.heap.size w2).setCell (p := ⟨w.heap.size, 0, none⟩) (Nat.le_refl _) (.slice A2 ys.length c2)
  have Hf : Hid (OpenE g (P + 410) w (.returned (.agg #[.slice A2 ys.length c2])) (w2.setCell ⟨w.heap.size, 0, none⟩ (.slice A2 ys.length c2))) := hd
    ⟨A2, c2, ys, rfl, hy, (own2.keep_lo (grown_set w2 ⟨w.heap.size, 0, none⟩ (.slice A2 ys.length c2)) (fun r hr => by simp at hr; omega)).low (by omega), (rd2.below bs hgw).more (by omega), ((N1.out.trans ⟨nn.os, nn.tape, nn.output, nn.size, fun i hi hne => nn.block i (by omega) hne⟩).trans (Only.below (g := g) bs (Nat.le_refl _))).grownBy⟩
  clear bs own2 rd2 nn hy
  go_wp2
  exact bodyPost_ret (v := .agg #[.slice A2 ys.length c2]) (by simp [results, Try.results92, c1, go_sem]) rfl Hf.out

/-- What a law is given by a draw of one engine. -/
def DrewE (w : World) (e : Ending) (w' : World) : Prop :=
  ∃ A c cs, e = .returned (.agg #[.slice A cs.length c]) ∧ (cs.length ≤ 8 ∧ Sizes cs 200) ∧ OwnS 9 w.heap.size w' A c cs ∧ Below w.heap.size w w'

end Go.Proofs.Ytkmblobfamhoiaa

/- The contract of the draw of an engine and a number of turns. -/
namespace Go.Proofs.Ytkmblobfamhoiaa
open Go.RowKit
set_option maxRecDepth 4000

def turnNums : List Int := [300, 301, -300, -301, 9223372036854775807, -9223372036854775808]
def I64 (v : Int) : Prop := -9223372036854775808 ≤ v ∧ v ≤ 9223372036854775807
/-- What a law is given by a draw of one engine and a number. -/
def DrewEN (w : World) (e : Ending) (w' : World) : Prop :=
  ∃ A c cs v, e = .returned (.tuple #[.agg #[.slice A cs.length c], .int .i64 v]) ∧ (cs.length ≤ 8 ∧ Sizes cs 200) ∧ OwnS 9 w.heap.size w' A c cs ∧ Below w.heap.size w w' ∧ I64 v

set_option maxHeartbeats 3200000 in
theorem DrawTurnMany_any (A : Option Addr) (c : Nat) (zs : List Int) (w : World) (h : SR w A (zs.map (Value.int .u8))) (hcap : zs.length ≤ c) (hx : ∀ x ∈ zs, 0 ≤ x ∧ x ≤ 255) :
    Calls Try.prog 37 #[.slice A zs.length c] w fun e w' => DrewEN w e w' := by
  have Ca := hd (Cl.new w (.slice none 0 0) 36)
  have B0 := hd ((Below.refl w.heap.size w).alloc (Nat.le_refl _) (.cells #[.slice none 0 0] 36))
  have H := hd (h.below B0.out)
  have Hx := hd hx
  have hsz0 : (w.alloc (.cells #[.slice none 0 0] 36)).heap.size = w.heap.size + 1 := by simp
  clear h hx
  go_enter Try.func37, Try.ntmps37
  go_wp2_with fail
  refine (l9Open_any A c zs _ H.out hcap Hx.out).mono ?_
  rintro e w1 ⟨g, rfl, hg, rd, b1⟩
  rw [hsz0] at hg
  have Rd := hd rd
  have hgw1 : g < w1.heap.size := rd.lt
  have Ca1 := hd (Ca.out.below b1)
  have B1 := hd (B0.out.trans (b1.mono (by rw [hsz0]; omega)))
  have hsz1 : w.heap.size + 1 ≤ w1.heap.size := by have := b1.size; rw [hsz0] at this; exact this
  clear rd b1 hsz0
  go_wp2_with fail
  refine (l3Open_any g 0 _ Rd.out (by omega)).mono ?_
  rintro e w2 ⟨A2, c2, ys, rfl, hy, own2, rd2, gr⟩
  have Ca2 := hd ((Ca1.out.other gr (by omega)).alloc (.cells #[.slice A2 ys.length c2] 36))
  have hgw := rd2.lt
  have Ce := hd (Cl.new w2 (.slice A2 ys.length c2) 36)
  have hsz2 : w1.heap.size ≤ w2.heap.size := gr.size
  have Bn := hd ((Below.refl w2.heap.size w2).alloc (Nat.le_refl _) (.cells #[.slice A2 ys.length c2] 36))
  have Rd2 := hd (rd2.below Bn.out hgw)
  have Own2 := hd (own2.alloc (.cells #[.slice A2 ys.length c2] 36))
  have B2 := hd ((grown_new B1.out (show w.heap.size ≤ g by omega) gr).alloc (by omega) (.cells #[.slice A2 ys.length c2] 36))
  have Hy := hd hy
  have hszn : (w2.alloc (.cells #[.slice A2 ys.length c2] 36)).heap.size = w2.heap.size + 1 := by simp
  clear own2 rd2 gr hy
  go_wp2_with fail
  refine (pick_any g _ 12 _ Rd2.out (by omega)).mono ?_
  rintro e w3 ⟨v, rfl, hv, r3, g3⟩
  have hsz3 : w2.heap.size + 1 ≤ w3.heap.size := by have := g3.size; rw [hszn] at this; exact this
  have Ca3 := hd (Ca2.out.other g3 (by omega))
  have Ce3 := hd (Ce.out.other g3 (by omega))
  have Own3 := hd (Own2.out.keep_lo g3 (fun r hr => by simp at hr; omega))
  have B3 := hd (B2.out.grown g3 (by rw [hszn]; omega) (fun r hr => by simp at hr; omega))
  have Rd3 := hd r3
  have hg3 := r3.lt
  clear hv r3 g3 hszn
  obtain ⟨c1, f1, -⟩ := Ca3.out
  obtain ⟨q1, q2, -⟩ := Ce3.out
  by_cases h0 : v = 0
  · subst h0
    have Hlit : Hid (OwnI 3 w3.heap.size (w3.drew.alloc (.cells #[.int .i64 300, .int .i64 301, .int .i64 (-300), .int .i64 (-301), .int .i64 9223372036854775807, .int .i64 (-9223372036854775808)] 3)) (some ⟨w3.heap.size, 0, none⟩) 6 turnNums) := hd
      ⟨by simp [turnNums], World.ownsRow_lit w3.drew #[.int .i64 300, .int .i64 301, .int .i64 (-300), .int .i64 (-301), .int .i64 9223372036854775807, .int .i64 (-9223372036854775808)] 6 (Nat.le_refl _) (by simp [maxLen]) rfl⟩
    have Bl := hd ((Below.refl w3.heap.size w3).drew.alloc (Nat.le_refl _) (.cells #[.int .i64 300, .int .i64 301, .int .i64 (-300), .int .i64 (-301), .int .i64 9223372036854775807, .int .i64 (-9223372036854775808)] 3))
    have Ra := hd (Rd3.out.below Bl.out hg3)
    have Ca4 := hd (Ca3.out.below Bl.out)
    have Ce4 := hd (Ce3.out.below Bl.out)
    have Own4 := hd (Own3.out.below Bl.out)
    have B4 := hd (B3.out.trans (Bl.out.mono (by omega)))
    have Hbl : Hid (0 < turnNums.length) := hd (by simp [turnNums])
    have hne : ¬ w2.heap.size = w3.heap.size := by omega
    have hq := (Ce3.out.alloc (.cells #[.int .i64 300, .int .i64 301, .int .i64 (-300), .int .i64 (-301), .int .i64 9223372036854775807, .int .i64 (-9223372036854775808)] 3)).1
    go_wp2
    go_region_law ((go_simp; go_at_call 93; refine (num_any g _ _ 6 turnNums _ Ra.out (by omega) Hlit.out.si (Hlit.out.off hg3) Hbl.out).mono ?_; rintro e w4 ⟨x, rfl, hx, r4, g4⟩; have Ca5 := hd (Ca4.out.other g4 (by omega)); have Ce5 := hd (Ce4.out.other g4 (by omega)); have Own5 := hd (Own4.out.keep_lo g4 (fun r hr => by simp at hr; omega)); have B5 := hd (B4.out.grown g4 (by simp; omega) (fun r hr => by simp at hr; omega)); have Hx2 := hd hx; clear hx r4 g4 hq c1 f1 q1 q2; obtain ⟨c1, f1, -⟩ := Ca5.out; obtain ⟨q1, q2, -⟩ := Ce5.out))
    all_goals
      have Hi : Hid (I64 x) := hd (by
        have hx := Hx2.out
        unfold turnNums at hx
        simp only [List.mem_cons, List.not_mem_nil, or_false] at hx
        unfold I64
        omega)
      have Hf : Hid (DrewEN w (.returned (.tuple #[.agg #[.slice A2 ys.length c2], .int .i64 x])) (w4.setCell ⟨w.heap.size, 0, none⟩ (.slice A2 ys.length c2))) := hd
        ⟨A2, c2, ys, x, rfl, Hy.out, (Own5.out.keep_lo (grown_set w4 ⟨w.heap.size, 0, none⟩ (.slice A2 ys.length c2)) (fun r hr => by simp at hr; omega)).low (by omega), B5.out.setCell (p := ⟨w.heap.size, 0, none⟩) (Nat.le_refl _) _, Hi.out⟩
      go_wp2
      exact bodyPost_ret (v := .tuple #[.agg #[.slice A2 ys.length c2], .int .i64 x]) (by simp [results, Try.results37, c1, go_sem]) rfl Hf.out
  · have e0 : (v == 0) = false := by simp [h0]
    clear h0
    go_wp2
    go_region_law ((go_simp; go_at_call 87; refine (pick_any g _ 50 w3.drew Rd3.out (by omega)).mono ?_; rintro e w4 ⟨x, rfl, hx, r4, g4⟩; have Ca5 := hd (Ca3.out.drew.other g4 (by omega)); have Ce5 := hd (Ce3.out.drew.other g4 (by omega)); have Own5 := hd (Own3.out.drew.keep_lo g4 (fun r hr => by simp at hr; omega)); have B5 := hd (B3.out.drew.grown g4 (show w.heap.size ≤ w3.heap.size by omega) (fun r hr => by simp at hr; omega)); obtain ⟨hx0, hx1⟩ := hx; have hx2 := hx1 (by omega); clear hx1 r4 g4 c1 f1 q1 q2; obtain ⟨c1, f1, -⟩ := Ca5.out; obtain ⟨q1, q2, -⟩ := Ce5.out))
    all_goals
      have Hf : Hid (DrewEN w (.returned (.tuple #[.agg #[.slice A2 ys.length c2], .int .i64 (x - 20)])) (w4.setCell ⟨w.heap.size, 0, none⟩ (.slice A2 ys.length c2))) := hd
        ⟨A2, c2, ys, x - 20, rfl, Hy.out, (Own5.out.keep_lo (grown_set w4 ⟨w.heap.size, 0, none⟩ (.slice A2 ys.length c2)) (fun r hr => by simp at hr; omega)).low (by omega), B5.out.setCell (p := ⟨w.heap.size, 0, none⟩) (Nat.le_refl _) _, ⟨by omega, by omega⟩⟩
      have e9 : IntKind.i64.wrap (x - 20) = x - 20 := IntWalk.i64_in _ (by omega)
      go_wp2
      exact bodyPost_ret (v := .tuple #[.agg #[.slice A2 ys.length c2], .int .i64 (x - 20)]) (by simp [results, Try.results37, c1, e9, go_sem]) rfl Hf.out

end Go.Proofs.Ytkmblobfamhoiaa

/- Contracts of the draws of a width, of an engine and a width, of a polynomial, an argument and a width. -/
namespace Go.Proofs.Ytkmblobfamhoiaa
open Go.RowKit
set_option maxRecDepth 4000

def wideNums : List Int := [0, 13, -1, 9223372036854775807]

set_option maxHeartbeats 800000 in
theorem l1Wide_any (g : Nat) (P : Int) (w : World) (h : Rdr w g P) (hP : P ≤ 1000) :
    Calls Try.prog 105 #[.pointer (some ⟨g, 0, none⟩)] w fun e w' => Picked Fits g (P + 2) w e w' := by
  have H := hd h
  clear h
  go_enter Try.func105, Try.ntmps105
  go_wp2_with fail
  refine (pick_any g P 16 _ H.out (by omega)).mono ?_
  rintro e w1 ⟨v, rfl, hv, r1, g1⟩
  have G1 := hd g1
  have R1 := hd r1
  have hgw := r1.lt
  clear hv g1 r1
  by_cases h0 : v = 0
  · subst h0
    have Hlit : Hid (OwnI 3 w1.heap.size (w1.alloc (.cells #[.int .i64 0, .int .i64 13, .int .i64 (-1), .int .i64 9223372036854775807] 3)) (some ⟨w1.heap.size, 0, none⟩) 4 wideNums) := hd
      ⟨by simp [wideNums], World.ownsRow_lit _ #[.int .i64 0, .int .i64 13, .int .i64 (-1), .int .i64 9223372036854775807] 4 (Nat.le_refl _) (by simp [maxLen]) rfl⟩
    have Ra := hd (R1.out.below ((Below.refl w1.heap.size w1).alloc (Nat.le_refl _) (.cells #[.int .i64 0, .int .i64 13, .int .i64 (-1), .int .i64 9223372036854775807] 3)) hgw)
    have Hbl : Hid (0 < wideNums.length) := hd (by simp [wideNums])
    go_wp2_with fail
    refine (num_any g (P + 1) _ 4 wideNums _ Ra.out (by omega) Hlit.out.si (Hlit.out.off hgw) Hbl.out).mono ?_
    rintro e w2 ⟨x, rfl, hx, r2, g2⟩
    have Hx : Hid (Fits x) := hd (by
      unfold wideNums at hx
      simp only [List.mem_cons, List.not_mem_nil, or_false] at hx
      unfold Fits
      omega)
    have R2 := hd (r2.more (show P + 1 + 1 ≤ P + 2 by omega))
    have G2 := hd (only_trans (only_alloc G1.out _) g2)
    clear hx r2 g2
    go_wp2
    go_ret
    exact ⟨x, rfl, Hx.out, R2.out, G2.out⟩
  · have e0 : (v == 0) = false := by simp [h0]
    clear h0
    go_wp2_with fail
    refine (l1Any_any g (P + 1) _ R1.out (by omega)).mono ?_
    rintro e w2 ⟨x, rfl, hx, r2, g2⟩
    have Hx : Hid (Fits x) := hd (by unfold IsW at hx; unfold Fits; omega)
    have R2 := hd (r2.more (show P + 1 + 1 ≤ P + 2 by omega))
    have G2 := hd (only_trans G1.out g2)
    clear hx r2 g2
    go_wp2
    go_ret
    exact ⟨_, rfl, Hx.out, R2.out, G2.out⟩

set_option maxHeartbeats 3200000 in
theorem DrawWidenEngine_any (A : Option Addr) (c : Nat) (zs : List Int) (w : World) (h : SR w A (zs.map (Value.int .u8))) (hcap : zs.length ≤ c) (hx : ∀ x ∈ zs, 0 ≤ x ∧ x ≤ 255) :
    Calls Try.prog 44 #[.slice A zs.length c] w fun e w' => DrewEN w e w' := by
  have Ca := hd (Cl.new w (.slice none 0 0) 36)
  have B0 := hd ((Below.refl w.heap.size w).alloc (Nat.le_refl _) (.cells #[.slice none 0 0] 36))
  have H := hd (h.below B0.out)
  have Hx := hd hx
  have hsz0 : (w.alloc (.cells #[.slice none 0 0] 36)).heap.size = w.heap.size + 1 := by simp
  clear h hx
  go_enter Try.func44, Try.ntmps44
  go_wp2_with fail
  refine (l9Open_any A c zs _ H.out hcap Hx.out).mono ?_
  rintro e w1 ⟨g, rfl, hg, rd, b1⟩
  rw [hsz0] at hg
  have Rd := hd rd
  have hgw1 : g < w1.heap.size := rd.lt
  have Ca1 := hd (Ca.out.below b1)
  have B1 := hd (B0.out.trans (b1.mono (by rw [hsz0]; omega)))
  have hsz1 : w.heap.size + 1 ≤ w1.heap.size := by have := b1.size; rw [hsz0] at this; exact this
  clear rd b1 hsz0
  go_wp2_with fail
  refine (l3Open_any g 0 _ Rd.out (by omega)).mono ?_
  rintro e w2 ⟨A2, c2, ys, rfl, hy, own2, rd2, gr⟩
  have Ca2 := hd ((Ca1.out.other gr (by omega)).alloc (.cells #[.slice A2 ys.length c2] 36))
  have hgw := rd2.lt
  have Ce := hd (Cl.new w2 (.slice A2 ys.length c2) 36)
  have hsz2 : w1.heap.size ≤ w2.heap.size := gr.size
  have Bn := hd ((Below.refl w2.heap.size w2).alloc (Nat.le_refl _) (.cells #[.slice A2 ys.length c2] 36))
  have Rd2 := hd (rd2.below Bn.out hgw)
  have Own2 := hd (own2.alloc (.cells #[.slice A2 ys.length c2] 36))
  have B2 := hd ((grown_new B1.out (show w.heap.size ≤ g by omega) gr).alloc (by omega) (.cells #[.slice A2 ys.length c2] 36))
  have Hy := hd hy
  have hszn : (w2.alloc (.cells #[.slice A2 ys.length c2] 36)).heap.size = w2.heap.size + 1 := by simp
  obtain ⟨w3, hw3⟩ : ∃ w3, w3 = w2.alloc (.cells #[.slice A2 ys.length c2] 36) := ⟨_, rfl⟩
  have Ca3 := hd Ca2.out
  have Ce3 := hd Ce.out
  have Own3 := hd Own2.out
  have B3 := hd B2.out
  have Rd3 := hd Rd2.out
  obtain ⟨c1, f1, -⟩ := Ca3.out
  obtain ⟨q1, q2, -⟩ := Ce3.out
  clear own2 rd2 gr hy hw3
  go_wp2
  go_region_law ((go_simp; go_at_call 105; refine (l1Wide_any g _ _ (Rdr.draws Rd3.out 1) (by omega)).mono ?_; rintro e w4 ⟨x, rfl, hx, r4, g4⟩; have Ca5 := hd (Ca3.out.drew.other g4 (by omega)); have Ce5 := hd (Ce3.out.drew.other g4 (by omega)); have Own5 := hd (Own3.out.drew.keep_lo g4 (fun r hr => by simp at hr; omega)); have B5 := hd (B3.out.drew.grown g4 (by simp; omega) (fun r hr => by simp at hr; omega)); have Hx2 := hd hx; clear hx r4 g4 c1 f1 q1 q2; obtain ⟨c1, f1, -⟩ := Ca5.out; obtain ⟨q1, q2, -⟩ := Ce5.out))
  all_goals
    have Hi : Hid (I64 x) := hd Hx2.out
    have Hf : Hid (DrewEN w (.returned (.tuple #[.agg #[.slice A2 ys.length c2], .int .i64 x])) (w4.setCell ⟨w.heap.size, 0, none⟩ (.slice A2 ys.length c2))) := hd
      ⟨A2, c2, ys, x, rfl, Hy.out, (Own5.out.keep_lo (grown_set w4 ⟨w.heap.size, 0, none⟩ (.slice A2 ys.length c2)) (fun r hr => by simp at hr; omega)).low (by omega), B5.out.setCell (p := ⟨w.heap.size, 0, none⟩) (Nat.le_refl _) _, Hi.out⟩
    go_wp2
    exact bodyPost_ret (v := .tuple #[.agg #[.slice A2 ys.length c2], .int .i64 x]) (by simp [results, Try.results44, c1, go_sem]) rfl Hf.out

/-- What a law is given by a draw of a polynomial and two numbers. -/
def DrewPNN (w : World) (e : Ending) (w' : World) : Prop :=
  ∃ A c zs v u, e = .returned (.tuple #[.slice A zs.length c, .int .i64 v, .int .i64 u]) ∧ zs.length ≤ 8 ∧ OwnI 3 w.heap.size w' A c zs ∧ zs.length ≤ c ∧ Below w.heap.size w w' ∧ Fits v ∧ Fits u

set_option maxHeartbeats 800000 in
theorem DrawSetUp_any (A : Option Addr) (c : Nat) (zs : List Int) (w : World) (h : SR w A (zs.map (Value.int .u8))) (hcap : zs.length ≤ c) (hx : ∀ x ∈ zs, 0 ≤ x ∧ x ≤ 255) :
    Calls Try.prog 48 #[.slice A zs.length c] w fun e w' => DrewPNN w e w' := by
  have H := hd h
  have Hx := hd hx
  clear h hx
  go_enter Try.func48, Try.ntmps48
  go_wp2_with fail
  refine (l9Open_any A c zs _ H.out hcap Hx.out).mono ?_
  rintro e w1 ⟨g, rfl, hg, rd, b1⟩
  have hgw := rd.lt
  go_wp2_with fail
  refine (l2Open_any g 0 _ rd (by omega)).mono ?_
  rintro e w2 ⟨A2, c2, ys, rfl, hy, own, hcap2, rd2, gr⟩
  have K2 := hd (grown_new b1 hg gr)
  have O2 := hd own
  have hsz : w1.heap.size ≤ w2.heap.size := gr.size
  clear own gr
  go_wp2_with fail
  refine (l2Number_any g _ _ rd2 (by omega)).mono ?_
  rintro e w3 ⟨v, rfl, hv, rd3, g3⟩
  have K3 := hd (grown_new K2.out hg g3)
  have O3 := hd (O2.out.keep_lo g3 (fun r hr => by simp at hr; omega))
  have hsz3 : w1.heap.size ≤ w3.heap.size := Nat.le_trans hsz g3.size
  have Hv := hd hv
  clear g3 hv rd2
  go_wp2_with fail
  refine (pick_any g _ 3 _ rd3 (by omega)).mono ?_
  rintro e w4 ⟨u, rfl, hu, rd4, g4⟩
  have K4 := hd (grown_new K3.out hg g4)
  have O4 := hd (O3.out.keep_lo g4 (fun r hr => by simp at hr; omega))
  have hsz4 : w1.heap.size ≤ w4.heap.size := Nat.le_trans hsz3 g4.size
  clear g4 rd3 hu
  by_cases h0 : 0 < u
  · clear rd4
    go_wp2
    go_ret3
    exact ⟨A2, c2, ys, v, 8, rfl, hy, O4.out.low b1.size, hcap2, K4.out, Hv.out, ⟨by omega, by omega⟩⟩
  · go_wp2_with fail
    refine (l1Wide_any g _ _ rd4 (by omega)).mono ?_
    rintro e w5 ⟨x, rfl, hx, rd5, g5⟩
    have K5 := hd (grown_new K4.out hg g5)
    have O5 := hd (O4.out.keep_lo g5 (fun r hr => by simp at hr; omega))
    have Hxx := hd hx
    clear hx rd5 g5
    go_wp2
    go_ret3
    exact ⟨A2, c2, ys, v, x, rfl, hy, O5.out.low b1.size, hcap2, K5.out, Hv.out, Hxx.out⟩

end Go.Proofs.Ytkmblobfamhoiaa
