/- Contracts of the source of numbers that the draws read: it returns some number in the range that was asked for, and moves its own position alone. -/
import Derived.Test.YtcalheieakppmaaLawA
import Derived.Laws.BitsAllLaws
namespace Go.Proofs.Ytcalheieakppmaa
open Go.RowKit
set_option maxRecDepth 4000

/-- Block g is a source whose position is at most P; its bytes lie in older blocks. -/
def Rdr (w : World) (g : Nat) (P : Int) : Prop :=
  ∃ (A : Option Addr) (c : Nat) (zs : List Int) (p : Int), w.heap[g]? = some (.cells #[.slice A zs.length c, .int .i64 p] 102 (0, 0)) ∧ zs.length ≤ 2000 ∧
    SRB g w A (zs.map (Value.int .u8)) ∧ (∀ x ∈ zs, 0 ≤ x ∧ x ≤ 255) ∧ 0 ≤ p ∧ p ≤ P

theorem Rdr.lt {w : World} {g : Nat} {P : Int} (h : Rdr w g P) : g < w.heap.size := by
  obtain ⟨A, c, zs, p, h1, _⟩ := h
  exact (Array.getElem?_eq_some_iff.1 h1).1

theorem Rdr.below {w w' : World} {g B : Nat} {P : Int} (h : Rdr w g P) (hb : Below B w w') (hB : g < B) : Rdr w' g P := by
  obtain ⟨A, c, zs, p, h1, h2, h3, h4⟩ := h
  exact ⟨A, c, zs, p, (hb.block g hB).trans h1, h2, h3.below (hb.mono (Nat.le_of_lt hB)), h4⟩

theorem Rdr.more {w : World} {g : Nat} {P P' : Int} (h : Rdr w g P) (hP : P ≤ P') : Rdr w g P' := by
  obtain ⟨A, c, zs, p, h1, h2, h3, h4, h5, h6⟩ := h
  exact ⟨A, c, zs, p, h1, h2, h3, h4, h5, by omega⟩

/-- What a draw leaves: its number, the source further on, and nothing else changed. -/
def Picked (Q : Int → Prop) (g : Nat) (P : Int) (w : World) (e : Ending) (w' : World) : Prop :=
  ∃ v : Int, e = .returned (.int .i64 v) ∧ Q v ∧ Rdr w' g P ∧ w.grownBy w' (some g)

theorem only_draws {a w : World} {row : Option Nat} (h : a.grownBy w row) (n : Nat) : a.grownBy (w.drewN n) row := ⟨h.os, h.tape, h.output, h.size, h.block⟩
theorem Rdr.draws {w : World} {g : Nat} {P : Int} (h : Rdr w g P) (n : Nat) : Rdr (w.drewN n) g P := h

/-- In the range of a draw of n numbers. -/
def InPick (n v : Int) : Prop := 0 ≤ v ∧ (1 ≤ n → v < n)

theorem i64_xor_nat (a b : Nat) (ha : a < 9223372036854775808) (hb : b < 9223372036854775808) : bits .xor .i64 (a : Int) (b : Int) = ((a ^^^ b : Nat) : Int) := by
  have ofInt : ∀ a : Nat, a < 9223372036854775808 → (BitVec.ofInt 64 (a : Int)).toNat = a := fun a ha => by
    rw [BitVec.ofInt_natCast, BitVec.toNat_ofNat]; exact Nat.mod_eq_of_lt (by omega)
  have hx : a ^^^ b < 2 ^ 63 := Nat.xor_lt_two_pow (by omega) (by omega)
  show IntKind.i64.wrap ((BitVec.ofInt 64 (a : Int) ^^^ BitVec.ofInt 64 (b : Int)).toNat : Int) = _
  rw [BitVec.toNat_xor, ofInt a ha, ofInt b hb, IntKind.wrap_i64]
  omega

theorem tmod_nat (a b : Nat) : (a : Int).tmod (b : Int) = ((a % b : Nat) : Int) := by
  rw [Int.tmod_eq_emod_of_nonneg (by omega)]; rfl

theorem rd_store {w : World} {g : Nat} {A : Option Addr} {c : Nat} {zs : List Int} {p : Int} (q : Int) (h1 : w.heap[g]? = some (.cells #[.slice A zs.length c, .int .i64 p] 102 (0, 0))) (h2 : zs.length ≤ 2000)
    (h3 : SRB g w A (zs.map (Value.int .u8))) (h4 : ∀ x ∈ zs, 0 ≤ x ∧ x ≤ 255) (h5 : 0 ≤ q) {P : Int} (h6 : q ≤ P) :
    Rdr (w.setCell ⟨g, 1, none⟩ (.int .i64 q)) g P ∧ w.grownBy (w.setCell ⟨g, 1, none⟩ (.int .i64 q)) (some g) := by
  have hb : Below g w (w.setCell ⟨g, 1, none⟩ (.int .i64 q)) := (Below.refl g w).setCell (p := ⟨g, 1, none⟩) (Nat.le_refl g) _
  refine ⟨⟨A, c, zs, q, ?_, h2, h3.below hb, h4, h5, h6⟩, ⟨rfl, rfl, rfl, by simp [World.setCell], fun k hk hne => Below.heap_setCell _ _ _ _ (by
    intro e
    subst e
    exact hne rfl)⟩⟩
  rw [heap_setCell_same w g 1 _ _ _ h1]
  rfl

set_option maxHeartbeats 1600000 in
theorem pick_any (g : Nat) (P n : Int) (w : World) (h : Rdr w g P) (hP : P ≤ 100000) :
    Calls Try.prog 126 #[.pointer (some ⟨g, 0, none⟩), .int .i64 n] w fun e w' => Picked (InPick n) g (P + 1) w e w' := by
  obtain ⟨A, c, zs, p, h1, h2, h3, h4, h5, h6⟩ := h
  have hc0 : w.cell? ⟨g, 0, none⟩ = some (.slice A zs.length c) := by rw [cell_of_row w g 0 _ _ _ h1]; rfl
  have hc1 : w.cell? ⟨g, 1, none⟩ = some (.int .i64 p) := by rw [cell_of_row w g 1 _ _ _ h1]; rfl
  have hf1 : w.frozen? ⟨g, 1, none⟩ = false := frozen_of_row w g 1 _ _ h1
  have Hst := hd (rd_store (p + 1) h1 h2 h3 h4 (by omega) (show p + 1 ≤ P + 1 by omega))
  have H3 := hd h3
  have H4 := hd h4
  have H1 := hd h1
  clear h1 h3 h4
  by_cases hn : n < 1
  · go_enter Try.func126, Try.ntmps126
    go_wp2
    go_ret
    exact ⟨0, rfl, ⟨by omega, fun h => by omega⟩, Hst.out.1, Hst.out.2⟩
  by_cases hz : zs.length = 0
  · have hz' : ((zs.length : Int) == 0) = true := by simp [hz]
    clear hz
    go_enter Try.func126, Try.ntmps126
    go_wp2
    go_ret
    exact ⟨0, rfl, ⟨by omega, fun h => by omega⟩, Hst.out.1, Hst.out.2⟩
  have hz' : ((zs.length : Int) == 0) = false := by simp [hz]
  obtain ⟨k, rfl⟩ := Int.eq_ofNat_of_zero_le h5
  by_cases hk : k < zs.length
  · obtain ⟨b, off, rfl, hbg, hbs, hcb⟩ := H3.out.2 k (.int .u8 zs[k]) (by simp [hk])
    obtain ⟨x, hx⟩ : ∃ x, x = zs[k] := ⟨_, rfl⟩
    rw [← hx] at hcb
    have hxb := H4.out x (by rw [hx]; exact List.getElem_mem _)
    obtain ⟨hx0, hx1⟩ := hxb
    have hne : ¬ b = g := by omega
    clear hx hz
    have Hq : Hid (1 ≤ n → InPick n (x % n)) := hd (fun hn' => ⟨Int.emod_nonneg _ (by omega), fun _ => Int.emod_lt_of_pos _ (by omega)⟩)
    go_enter Try.func126, Try.ntmps126
    go_wp2
    go_ret
    exact ⟨_, rfl, Hq.out (by omega), Hst.out.1, Hst.out.2⟩
  · have hl0 : 0 < zs.length := by omega
    have hm1 : k % zs.length < zs.length := Nat.mod_lt _ hl0
    have hm2 : (k * 7 + 3) % zs.length < zs.length := Nat.mod_lt _ hl0
    obtain ⟨i1, hi1⟩ : ∃ i, i = k % zs.length := ⟨_, rfl⟩
    obtain ⟨i2, hi2⟩ : ∃ i, i = (k * 7 + 3) % zs.length := ⟨_, rfl⟩
    rw [← hi1] at hm1
    rw [← hi2] at hm2
    obtain ⟨b, off, rfl, hbg, hbs, hcb⟩ := H3.out.2 i1 (.int .u8 zs[i1]) (by simp [hm1])
    obtain ⟨b', off', he, hbg', hbs', hcb'⟩ := H3.out.2 i2 (.int .u8 zs[i2]) (by simp [hm2])
    simp only [Option.some.injEq, Addr.mk.injEq, and_true] at he
    obtain ⟨rfl, rfl⟩ := he
    obtain ⟨x, hx⟩ : ∃ x, x = zs[i1] := ⟨_, rfl⟩
    obtain ⟨y, hy⟩ : ∃ y, y = zs[i2] := ⟨_, rfl⟩
    rw [← hx] at hcb
    rw [← hy] at hcb'
    obtain ⟨hx0, hx1⟩ := H4.out x (by rw [hx]; exact List.getElem_mem _)
    obtain ⟨hy0, hy1⟩ := H4.out y (by rw [hy]; exact List.getElem_mem _)
    have hne : ¬ b = g := by omega
    have hk5 : (k : Int) ≤ 100000 := by omega
    obtain ⟨a, rfl⟩ := Int.eq_ofNat_of_zero_le hx0
    obtain ⟨d, rfl⟩ := Int.eq_ofNat_of_zero_le hy0
    have E1 := hd (show (k : Int).tmod (zs.length : Int) = (i1 : Int) by rw [tmod_nat, hi1])
    have E2 := hd (show ((k : Int) * 7 + 3).tmod (zs.length : Int) = (i2 : Int) by
      rw [show ((k : Int) * 7 + 3) = ((k * 7 + 3 : Nat) : Int) by omega, tmod_nat, hi2])
    have hqd : k / zs.length ≤ k := Nat.div_le_self _ _
    obtain ⟨q, hq⟩ : ∃ q, q = k / zs.length := ⟨_, rfl⟩
    rw [← hq] at hqd
    have E3 := hd (show (k : Int).tdiv (zs.length : Int) = (q : Int) by rw [hq]; rfl)
    clear hx hy hi1 hi2 hq hz
    go_enter Try.func126, Try.ntmps126
    go_wp2
    have e1 := E1.out
    have e2 := E2.out
    have e3 := E3.out
    have f1 : IntKind.i64.wrap (a : Int) = a := IntWalk.i64_in _ (by omega)
    have f2 : IntKind.i64.wrap (d : Int) = d := IntWalk.i64_in _ (by omega)
    have f3 : IntKind.i64.wrap ((a : Int) * 131) = (a : Int) * 131 := IntWalk.i64_in _ (by omega)
    have f4 : IntKind.i64.wrap ((k : Int) * 7) = (k : Int) * 7 := IntWalk.i64_in _ (by omega)
    have f5 : IntKind.i64.wrap ((k : Int) * 7 + 3) = (k : Int) * 7 + 3 := IntWalk.i64_in _ (by omega)
    have f6 : IntKind.i64.wrap ((d : Int) * 1117) = (d : Int) * 1117 := IntWalk.i64_in _ (by omega)
    have f7 : IntKind.i64.wrap ((a : Int) * 131 + (d : Int) * 1117) = (a : Int) * 131 + (d : Int) * 1117 := IntWalk.i64_in _ (by omega)
    have f8 : IntKind.i64.wrap ((k : Int) * 29) = (k : Int) * 29 := IntWalk.i64_in _ (by omega)
    have f9 : IntKind.i64.wrap ((a : Int) * 131 + (d : Int) * 1117 + (k : Int) * 29) = (a : Int) * 131 + (d : Int) * 1117 + (k : Int) * 29 := IntWalk.i64_in _ (by omega)
    have f10 : IntKind.i64.wrap ((q : Int) * 53) = (q : Int) * 53 := IntWalk.i64_in _ (by omega)
    have f11 : IntKind.i64.wrap ((a : Int) * 131 + (d : Int) * 1117 + (k : Int) * 29 + (q : Int) * 53) = (a : Int) * 131 + (d : Int) * 1117 + (k : Int) * 29 + (q : Int) * 53 := IntWalk.i64_in _ (by omega)
    have f12 : ¬ (zs.length : Int) = 0 := by omega
    go_quiet (fail)
    clear e1 e2 e3 f1 f2 f3 f4 f5 f6 f7 f8 f9 f10 f11 f12
    obtain ⟨X, hX⟩ : ∃ X : Nat, (a : Int) * 131 + (d : Int) * 1117 + (k : Int) * 29 + (q : Int) * 53 = (X : Int) := ⟨a * 131 + d * 1117 + k * 29 + q * 53, by omega⟩
    have hXb : X ≤ 100000000 := by omega
    rw [hX]
    obtain ⟨Y, hY⟩ : ∃ Y : Nat, Y = X ^^^ (X / 64) := ⟨_, rfl⟩
    have hxor : bits .xor .i64 (X : Int) ((X : Int) / 64) = (Y : Int) := by
      rw [hY, show ((X : Int) / 64) = ((X / 64 : Nat) : Int) from rfl, i64_xor_nat _ _ (by omega) (by omega)]
    have hYb : Y < 2 ^ 27 := by
      rw [hY]; exact Nat.xor_lt_two_pow (by omega) (by omega)
    have hYb' : Y < 134217728 := hYb
    have Hq : Hid (1 ≤ n → InPick n ((Y : Int) % n)) := hd (fun hn' => ⟨Int.emod_nonneg _ (by omega), fun _ => Int.emod_lt_of_pos _ (by omega)⟩)
    have Hgr := hd (only_draws Hst.out.2 nq)
    have Hrd := hd (Hst.out.1.draws nq)
    clear hX hY hYb hcb hcb' hc0 hc1
    go_wp2
    go_ret
    exact ⟨_, rfl, Hq.out (by omega), Hrd.out, Hgr.out⟩

/-- A source has been made: in a new block, at its beginning. -/
def Opened (w : World) (e : Ending) (w' : World) : Prop := ∃ g, e = .returned (.pointer (some ⟨g, 0, none⟩)) ∧ w.heap.size ≤ g ∧ Rdr w' g 0 ∧ Below w.heap.size w w'

theorem rd_new (w : World) (A : Option Addr) (c : Nat) (zs : List Int) (h : SR w A (zs.map (Value.int .u8))) (hl : zs.length ≤ 2000) (hx : ∀ x ∈ zs, 0 ≤ x ∧ x ≤ 255) :
    Rdr (w.alloc (.cells #[.slice A zs.length c, .int .i64 0] 102)) w.heap.size 0 :=
  ⟨A, c, zs, 0, heap_alloc_new w _, hl, (h.srb).below ((Below.refl _ _).alloc (Nat.le_refl _) _), hx, by omega, by omega⟩

set_option maxHeartbeats 400000 in
theorem l9Open_any (A : Option Addr) (c : Nat) (zs : List Int) (w : World) (h : SR w A (zs.map (Value.int .u8))) (hcap : zs.length ≤ c) (hx : ∀ x ∈ zs, 0 ≤ x ∧ x ≤ 255) :
    Calls Try.prog 115 #[.slice A zs.length c] w fun e w' => Opened w e w' := by
  have hl : zs.length ≤ 17592186044416 := by have := h.1; simpa using this
  by_cases hbig : 2000 < zs.length
  · obtain ⟨b, off, e, hb, hc⟩ := h.2 0 (.int .u8 (zs[0]'(by omega))) (by simp)
    subst e
    have htl : (zs.take 2000).length = 2000 := by rw [List.length_take]; omega
    have Hn : Hid (Rdr (w.alloc (.cells #[.slice (some ⟨b, off, none⟩) 2000 c, .int .i64 0] 102)) w.heap.size 0) := hd (by
      have := rd_new w (some ⟨b, off, none⟩) c (zs.take 2000) ⟨by simp; omega, fun k v hk => by
        rw [List.map_take, List.getElem?_take] at hk
        split at hk
        · exact h.2 k v hk
        · cases hk⟩ (by omega) (fun x hx' => hx x (List.mem_of_mem_take hx'))
      rwa [htl] at this)
    have hbig' : (2000 : Int) < zs.length := by omega
    have hc2 : (2000 : Int) ≤ c := by omega
    have hc3 : ¬ (c : Int) < 2000 := by omega
    clear h hx hc htl
    go_enter Try.func115, Try.ntmps115
    go_wp2
    go_ret
    exact ⟨_, rfl, Nat.le_refl _, Hn.out, (Below.refl _ _).alloc (Nat.le_refl _) _⟩
  · have hbig' : ¬ (2000 : Int) < zs.length := by omega
    have Hn := hd (rd_new w A c zs h (by omega) hx)
    clear h hx hbig
    go_enter Try.func115, Try.ntmps115
    go_wp2
    go_ret
    exact ⟨_, rfl, Nat.le_refl _, Hn.out, (Below.refl _ _).alloc (Nat.le_refl _) _⟩

theorem SI.grown_row {w w' : World} {A : Option Addr} {zs : List Int} {g : Nat} (h : SI w A zs) (hg : w.grownBy w' (some g)) (ho : Off A g) : SI w' A zs := h.grown hg ho

set_option maxHeartbeats 400000 in
theorem num_any (g : Nat) (P : Int) (A : Option Addr) (c : Nat) (zs : List Int) (w : World) (h : Rdr w g P) (hP : P ≤ 100000) (hs : SI w A zs) (hoff : Off A g) (hn : 0 < zs.length) :
    Calls Try.prog 127 #[.pointer (some ⟨g, 0, none⟩), .slice A zs.length c] w fun e w' => Picked (fun v => v ∈ zs) g (P + 1) w e w' := by
  obtain ⟨b, off, rfl, hb⟩ := hs.nonempty hn
  have hl := hs.len
  have H := hd h
  have Hs := hd hs
  have Hoff := hd hoff
  clear h hs hoff
  go_enter Try.func127, Try.ntmps127
  go_wp2_with fail
  refine (pick_any g P zs.length _ H.out hP).mono ?_
  rintro e w1 ⟨v, rfl, hv, hr, hg⟩
  obtain ⟨hv0, hv1⟩ := hv
  have hv2 := hv1 (by omega)
  obtain ⟨i, rfl⟩ := Int.eq_ofNat_of_zero_le hv0
  have hi : i < zs.length := by omega
  obtain ⟨x, b', off', hx, he, _, hc⟩ := (Hs.out.grown hg Hoff.out).at_ hi
  simp only [Option.some.injEq, Addr.mk.injEq, and_true] at he
  obtain ⟨rfl, rfl⟩ := he
  have Hr := hd hr
  have Hg := hd hg
  have Hx : Hid (x ∈ zs) := hd (List.mem_of_getElem? hx)
  clear hr hg hx hv1
  go_wp2
  go_ret
  exact ⟨x, rfl, Hx.out, Hr.out, Hg.out⟩

end Go.Proofs.Ytcalheieakppmaa
