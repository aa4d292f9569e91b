/- Merged out of the texts DrawA DrawB DrawC DrawD DrawE. -/
import Derived.Test.YtinhcdppdnmlgaaDoorLawA
import Derived.Laws.BitsAllLaws
/- Contracts of the source of numbers that the draws read: it returns some number in the range that was asked for, and moves its own position alone. -/
namespace Go.Proofs.YtinhcdppdnmlgaaDoor
open Go.RowKit
set_option maxRecDepth 4000

/-- Block g is a source whose position is at most P; its bytes lie in older blocks. -/
def Rdr (w : World) (g : Nat) (P : Int) : Prop :=
  ∃ (A : Option Addr) (c : Nat) (zs : List Int) (p : Int), w.heap[g]? = some (.cells #[.slice A zs.length c, .int .i64 p] 60 (0, 0)) ∧ zs.length ≤ 2000 ∧
    SRB g w A (zs.map (Value.int .u8)) ∧ (∀ x ∈ zs, 0 ≤ x ∧ x ≤ 255) ∧ 0 ≤ p ∧ p ≤ P

theorem Rdr.lt {w : World} {g : Nat} {P : Int} (h : Rdr w g P) : g < w.heap.size := by
  obtain ⟨A, c, zs, p, h1, _⟩ := h
  exact (Array.getElem?_eq_some_iff.1 h1).1

theorem Rdr.below {w w' : World} {g B : Nat} {P : Int} (h : Rdr w g P) (hb : Below B w w') (hB : g < B) : Rdr w' g P := by
  obtain ⟨A, c, zs, p, h1, h2, h3, h4⟩ := h
  exact ⟨A, c, zs, p, (hb.block g hB).trans h1, h2, h3.below (hb.mono (Nat.le_of_lt hB)), h4⟩

theorem Rdr.more {w : World} {g : Nat} {P P' : Int} (h : Rdr w g P) (hP : P ≤ P') : Rdr w g P' := by
  obtain ⟨A, c, zs, p, h1, h2, h3, h4, h5, h6⟩ := h
  exact ⟨A, c, zs, p, h1, h2, h3, h4, h5, by omega⟩

/-- What a draw leaves: its number, the source further on, and nothing else changed. -/
def Picked (Q : Int → Prop) (g : Nat) (P : Int) (w : World) (e : Ending) (w' : World) : Prop :=
  ∃ v : Int, e = .returned (.int .i64 v) ∧ Q v ∧ Rdr w' g P ∧ w.grownBy w' (some g)

theorem only_draws {a w : World} {row : Option Nat} (h : a.grownBy w row) (n : Nat) : a.grownBy (w.drewN n) row := ⟨h.os, h.tape, h.output, h.size, h.block⟩
theorem Rdr.draws {w : World} {g : Nat} {P : Int} (h : Rdr w g P) (n : Nat) : Rdr (w.drewN n) g P := h

/-- In the range of a draw of n numbers. -/
def InPick (n v : Int) : Prop := 0 ≤ v ∧ (1 ≤ n → v < n)

theorem i64_xor_nat (a b : Nat) (ha : a < 9223372036854775808) (hb : b < 9223372036854775808) : bits .xor .i64 (a : Int) (b : Int) = ((a ^^^ b : Nat) : Int) := by
  have ofInt : ∀ a : Nat, a < 9223372036854775808 → (BitVec.ofInt 64 (a : Int)).toNat = a := fun a ha => by
    rw [BitVec.ofInt_natCast, BitVec.toNat_ofNat]; exact Nat.mod_eq_of_lt (by omega)
  have hx : a ^^^ b < 2 ^ 63 := Nat.xor_lt_two_pow (by omega) (by omega)
  show IntKind.i64.wrap ((BitVec.ofInt 64 (a : Int) ^^^ BitVec.ofInt 64 (b : Int)).toNat : Int) = _
  rw [BitVec.toNat_xor, ofInt a ha, ofInt b hb, IntKind.wrap_i64]
  omega

theorem tmod_nat (a b : Nat) : (a : Int).tmod (b : Int) = ((a % b : Nat) : Int) := by
  rw [Int.tmod_eq_emod_of_nonneg (by omega)]; rfl

theorem rd_store {w : World} {g : Nat} {A : Option Addr} {c : Nat} {zs : List Int} {p : Int} (q : Int) (h1 : w.heap[g]? = some (.cells #[.slice A zs.length c, .int .i64 p] 60 (0, 0))) (h2 : zs.length ≤ 2000)
    (h3 : SRB g w A (zs.map (Value.int .u8))) (h4 : ∀ x ∈ zs, 0 ≤ x ∧ x ≤ 255) (h5 : 0 ≤ q) {P : Int} (h6 : q ≤ P) :
    Rdr (w.setCell ⟨g, 1, none⟩ (.int .i64 q)) g P ∧ w.grownBy (w.setCell ⟨g, 1, none⟩ (.int .i64 q)) (some g) := by
  have hb : Below g w (w.setCell ⟨g, 1, none⟩ (.int .i64 q)) := (Below.refl g w).setCell (p := ⟨g, 1, none⟩) (Nat.le_refl g) _
  refine ⟨⟨A, c, zs, q, ?_, h2, h3.below hb, h4, h5, h6⟩, ⟨rfl, rfl, rfl, by simp [World.setCell], fun k hk hne => Below.heap_setCell _ _ _ _ (by
    intro e
    subst e
    exact hne rfl)⟩⟩
  rw [heap_setCell_same w g 1 _ _ _ h1]
  rfl

set_option maxHeartbeats 1600000 in
theorem pick_any (g : Nat) (P n : Int) (w : World) (h : Rdr w g P) (hP : P ≤ 100000) :
    Calls Tryd.prog 35 #[.pointer (some ⟨g, 0, none⟩), .int .i64 n] w fun e w' => Picked (InPick n) g (P + 1) w e w' := by
  obtain ⟨A, c, zs, p, h1, h2, h3, h4, h5, h6⟩ := h
  have hc0 : w.cell? ⟨g, 0, none⟩ = some (.slice A zs.length c) := by rw [cell_of_row w g 0 _ _ _ h1]; rfl
  have hc1 : w.cell? ⟨g, 1, none⟩ = some (.int .i64 p) := by rw [cell_of_row w g 1 _ _ _ h1]; rfl
  have hf1 : w.frozen? ⟨g, 1, none⟩ = false := frozen_of_row w g 1 _ _ h1
  have Hst := hd (rd_store (p + 1) h1 h2 h3 h4 (by omega) (show p + 1 ≤ P + 1 by omega))
  have H3 := hd h3
  have H4 := hd h4
  have H1 := hd h1
  clear h1 h3 h4
  by_cases hn : n < 1
  · go_enter Tryd.func35, Tryd.ntmps35
    go_wp2
    go_ret
    exact ⟨0, rfl, ⟨by omega, fun h => by omega⟩, Hst.out.1, Hst.out.2⟩
  by_cases hz : zs.length = 0
  · have hz' : ((zs.length : Int) == 0) = true := by simp [hz]
    clear hz
    go_enter Tryd.func35, Tryd.ntmps35
    go_wp2
    go_ret
    exact ⟨0, rfl, ⟨by omega, fun h => by omega⟩, Hst.out.1, Hst.out.2⟩
  have hz' : ((zs.length : Int) == 0) = false := by simp [hz]
  obtain ⟨k, rfl⟩ := Int.eq_ofNat_of_zero_le h5
  by_cases hk : k < zs.length
  · obtain ⟨b, off, rfl, hbg, hbs, hcb⟩ := H3.out.2 k (.int .u8 zs[k]) (by simp [hk])
    obtain ⟨x, hx⟩ : ∃ x, x = zs[k] := ⟨_, rfl⟩
    rw [← hx] at hcb
    have hxb := H4.out x (by rw [hx]; exact List.getElem_mem _)
    obtain ⟨hx0, hx1⟩ := hxb
    have hne : ¬ b = g := by omega
    clear hx hz
    have Hq : Hid (1 ≤ n → InPick n (x % n)) := hd (fun hn' => ⟨Int.emod_nonneg _ (by omega), fun _ => Int.emod_lt_of_pos _ (by omega)⟩)
    go_enter Tryd.func35, Tryd.ntmps35
    go_wp2
    go_ret
    exact ⟨_, rfl, Hq.out (by omega), Hst.out.1, Hst.out.2⟩
  · have hl0 : 0 < zs.length := by omega
    have hm1 : k % zs.length < zs.length := Nat.mod_lt _ hl0
    have hm2 : (k * 7 + 3) % zs.length < zs.length := Nat.mod_lt _ hl0
    obtain ⟨i1, hi1⟩ : ∃ i, i = k % zs.length := ⟨_, rfl⟩
    obtain ⟨i2, hi2⟩ : ∃ i, i = (k * 7 + 3) % zs.length := ⟨_, rfl⟩
    rw [← hi1] at hm1
    rw [← hi2] at hm2
    obtain ⟨b, off, rfl, hbg, hbs, hcb⟩ := H3.out.2 i1 (.int .u8 zs[i1]) (by simp [hm1])
    obtain ⟨b', off', he, hbg', hbs', hcb'⟩ := H3.out.2 i2 (.int .u8 zs[i2]) (by simp [hm2])
    simp only [Option.some.injEq, Addr.mk.injEq, and_true] at he
    obtain ⟨rfl, rfl⟩ := he
    obtain ⟨x, hx⟩ : ∃ x, x = zs[i1] := ⟨_, rfl⟩
    obtain ⟨y, hy⟩ : ∃ y, y = zs[i2] := ⟨_, rfl⟩
    rw [← hx] at hcb
    rw [← hy] at hcb'
    obtain ⟨hx0, hx1⟩ := H4.out x (by rw [hx]; exact List.getElem_mem _)
    obtain ⟨hy0, hy1⟩ := H4.out y (by rw [hy]; exact List.getElem_mem _)
    have hne : ¬ b = g := by omega
    have hk5 : (k : Int) ≤ 100000 := by omega
    obtain ⟨a, rfl⟩ := Int.eq_ofNat_of_zero_le hx0
    obtain ⟨d, rfl⟩ := Int.eq_ofNat_of_zero_le hy0
    have E1 := hd (show (k : Int).tmod (zs.length : Int) = (i1 : Int) by rw [tmod_nat, hi1])
    have E2 := hd (show ((k : Int) * 7 + 3).tmod (zs.length : Int) = (i2 : Int) by
      rw [show ((k : Int) * 7 + 3) = ((k * 7 + 3 : Nat) : Int) by omega, tmod_nat, hi2])
    have hqd : k / zs.length ≤ k := Nat.div_le_self _ _
    obtain ⟨q, hq⟩ : ∃ q, q = k / zs.length := ⟨_, rfl⟩
    rw [← hq] at hqd
    have E3 := hd (show (k : Int).tdiv (zs.length : Int) = (q : Int) by rw [hq]; rfl)
    clear hx hy hi1 hi2 hq hz
    go_enter Tryd.func35, Tryd.ntmps35
    go_wp2
    have e1 := E1.out
    have e2 := E2.out
    have e3 := E3.out
    have f1 : IntKind.i64.wrap (a : Int) = a := IntWalk.i64_in _ (by omega)
    have f2 : IntKind.i64.wrap (d : Int) = d := IntWalk.i64_in _ (by omega)
    have f3 : IntKind.i64.wrap ((a : Int) * 131) = (a : Int) * 131 := IntWalk.i64_in _ (by omega)
    have f4 : IntKind.i64.wrap ((k : Int) * 7) = (k : Int) * 7 := IntWalk.i64_in _ (by omega)
    have f5 : IntKind.i64.wrap ((k : Int) * 7 + 3) = (k : Int) * 7 + 3 := IntWalk.i64_in _ (by omega)
    have f6 : IntKind.i64.wrap ((d : Int) * 1117) = (d : Int) * 1117 := IntWalk.i64_in _ (by omega)
    have f7 : IntKind.i64.wrap ((a : Int) * 131 + (d : Int) * 1117) = (a : Int) * 131 + (d : Int) * 1117 := IntWalk.i64_in _ (by omega)
    have f8 : IntKind.i64.wrap ((k : Int) * 29) = (k : Int) * 29 := IntWalk.i64_in _ (by omega)
    have f9 : IntKind.i64.wrap ((a : Int) * 131 + (d : Int) * 1117 + (k : Int) * 29) = (a : Int) * 131 + (d : Int) * 1117 + (k : Int) * 29 := IntWalk.i64_in _ (by omega)
    have f10 : IntKind.i64.wrap ((q : Int) * 53) = (q : Int) * 53 := IntWalk.i64_in _ (by omega)
    have f11 : IntKind.i64.wrap ((a : Int) * 131 + (d : Int) * 1117 + (k : Int) * 29 + (q : Int) * 53) = (a : Int) * 131 + (d : Int) * 1117 + (k : Int) * 29 + (q : Int) * 53 := IntWalk.i64_in _ (by omega)
    have f12 : ¬ (zs.length : Int) = 0 := by omega
    go_quiet (fail)
    clear e1 e2 e3 f1 f2 f3 f4 f5 f6 f7 f8 f9 f10 f11 f12
    obtain ⟨X, hX⟩ : ∃ X : Nat, (a : Int) * 131 + (d : Int) * 1117 + (k : Int) * 29 + (q : Int) * 53 = (X : Int) := ⟨a * 131 + d * 1117 + k * 29 + q * 53, by omega⟩
    have hXb : X ≤ 100000000 := by omega
    rw [hX]
    obtain ⟨Y, hY⟩ : ∃ Y : Nat, Y = X ^^^ (X / 64) := ⟨_, rfl⟩
    have hxor : bits .xor .i64 (X : Int) ((X : Int) / 64) = (Y : Int) := by
      rw [hY, show ((X : Int) / 64) = ((X / 64 : Nat) : Int) from rfl, i64_xor_nat _ _ (by omega) (by omega)]
    have hYb : Y < 2 ^ 27 := by
      rw [hY]; exact Nat.xor_lt_two_pow (by omega) (by omega)
    have hYb' : Y < 134217728 := hYb
    have Hq : Hid (1 ≤ n → InPick n ((Y : Int) % n)) := hd (fun hn' => ⟨Int.emod_nonneg _ (by omega), fun _ => Int.emod_lt_of_pos _ (by omega)⟩)
    have Hgr := hd (only_draws Hst.out.2 nq)
    have Hrd := hd (Hst.out.1.draws nq)
    clear hX hY hYb hcb hcb' hc0 hc1
    go_wp2
    go_ret
    exact ⟨_, rfl, Hq.out (by omega), Hrd.out, Hgr.out⟩

/-- A source has been made: in a new block, at its beginning. -/
def Opened (w : World) (e : Ending) (w' : World) : Prop := ∃ g, e = .returned (.pointer (some ⟨g, 0, none⟩)) ∧ w.heap.size ≤ g ∧ Rdr w' g 0 ∧ Below w.heap.size w w'

theorem rd_new (w : World) (A : Option Addr) (c : Nat) (zs : List Int) (h : SR w A (zs.map (Value.int .u8))) (hl : zs.length ≤ 2000) (hx : ∀ x ∈ zs, 0 ≤ x ∧ x ≤ 255) :
    Rdr (w.alloc (.cells #[.slice A zs.length c, .int .i64 0] 60)) w.heap.size 0 :=
  ⟨A, c, zs, 0, heap_alloc_new w _, hl, (h.srb).below ((Below.refl _ _).alloc (Nat.le_refl _) _), hx, by omega, by omega⟩

set_option maxHeartbeats 400000 in
theorem l9Open_any (A : Option Addr) (c : Nat) (zs : List Int) (w : World) (h : SR w A (zs.map (Value.int .u8))) (hcap : zs.length ≤ c) (hx : ∀ x ∈ zs, 0 ≤ x ∧ x ≤ 255) :
    Calls Tryd.prog 29 #[.slice A zs.length c] w fun e w' => Opened w e w' := by
  have hl : zs.length ≤ 17592186044416 := by have := h.1; simpa using this
  by_cases hbig : 2000 < zs.length
  · obtain ⟨b, off, e, hb, hc⟩ := h.2 0 (.int .u8 (zs[0]'(by omega))) (by simp)
    subst e
    have htl : (zs.take 2000).length = 2000 := by rw [List.length_take]; omega
    have Hn : Hid (Rdr (w.alloc (.cells #[.slice (some ⟨b, off, none⟩) 2000 c, .int .i64 0] 60)) w.heap.size 0) := hd (by
      have := rd_new w (some ⟨b, off, none⟩) c (zs.take 2000) ⟨by simp; omega, fun k v hk => by
        rw [List.map_take, List.getElem?_take] at hk
        split at hk
        · exact h.2 k v hk
        · cases hk⟩ (by omega) (fun x hx' => hx x (List.mem_of_mem_take hx'))
      rwa [htl] at this)
    have hbig' : (2000 : Int) < zs.length := by omega
    have hc2 : (2000 : Int) ≤ c := by omega
    have hc3 : ¬ (c : Int) < 2000 := by omega
    clear h hx hc htl
    go_enter Tryd.func29, Tryd.ntmps29
    go_wp2
    go_ret
    exact ⟨_, rfl, Nat.le_refl _, Hn.out, (Below.refl _ _).alloc (Nat.le_refl _) _⟩
  · have hbig' : ¬ (2000 : Int) < zs.length := by omega
    have Hn := hd (rd_new w A c zs h (by omega) hx)
    clear h hx hbig
    go_enter Tryd.func29, Tryd.ntmps29
    go_wp2
    go_ret
    exact ⟨_, rfl, Nat.le_refl _, Hn.out, (Below.refl _ _).alloc (Nat.le_refl _) _⟩

theorem SI.grown_row {w w' : World} {A : Option Addr} {zs : List Int} {g : Nat} (h : SI w A zs) (hg : w.grownBy w' (some g)) (ho : Off A g) : SI w' A zs := h.grown hg ho

set_option maxHeartbeats 400000 in
theorem num_any (g : Nat) (P : Int) (A : Option Addr) (c : Nat) (zs : List Int) (w : World) (h : Rdr w g P) (hP : P ≤ 100000) (hs : SI w A zs) (hoff : Off A g) (hn : 0 < zs.length) :
    Calls Tryd.prog 51 #[.pointer (some ⟨g, 0, none⟩), .slice A zs.length c] w fun e w' => Picked (fun v => v ∈ zs) g (P + 1) w e w' := by
  obtain ⟨b, off, rfl, hb⟩ := hs.nonempty hn
  have hl := hs.len
  have H := hd h
  have Hs := hd hs
  have Hoff := hd hoff
  clear h hs hoff
  go_enter Tryd.func51, Tryd.ntmps51
  go_wp2_with fail
  refine (pick_any g P zs.length _ H.out hP).mono ?_
  rintro e w1 ⟨v, rfl, hv, hr, hg⟩
  obtain ⟨hv0, hv1⟩ := hv
  have hv2 := hv1 (by omega)
  obtain ⟨i, rfl⟩ := Int.eq_ofNat_of_zero_le hv0
  have hi : i < zs.length := by omega
  obtain ⟨x, b', off', hx, he, _, hc⟩ := (Hs.out.grown hg Hoff.out).at_ hi
  simp only [Option.some.injEq, Addr.mk.injEq, and_true] at he
  obtain ⟨rfl, rfl⟩ := he
  have Hr := hd hr
  have Hg := hd hg
  have Hx : Hid (x ∈ zs) := hd (List.mem_of_getElem? hx)
  clear hr hg hx hv1
  go_wp2
  go_ret
  exact ⟨x, rfl, Hx.out, Hr.out, Hg.out⟩

end Go.Proofs.YtinhcdppdnmlgaaDoor

/- Contracts of the draws of polynomials: some list comes back, in memory of the call's own. -/
namespace Go.Proofs.YtinhcdppdnmlgaaDoor
open Go.RowKit
set_option maxRecDepth 4000

theorem only_trans {a b c : World} {row : Option Nat} (h : a.grownBy b row) (k : b.grownBy c row) : a.grownBy c row :=
  ⟨k.os.trans h.os, k.tape.trans h.tape, k.output.trans h.output, Nat.le_trans h.size k.size, fun i hi hne => (k.block i (Nat.lt_of_lt_of_le hi h.size) hne).trans (h.block i hi hne)⟩
theorem only_below {a b c : World} {row : Option Nat} (h : a.grownBy b row) (k : Below a.heap.size b c) : a.grownBy c row :=
  ⟨k.os.trans h.os, k.tape.trans h.tape, k.output.trans h.output, Nat.le_trans h.size k.size, fun i hi hne => (k.block i hi).trans (h.block i hi hne)⟩
theorem only_alloc {a w : World} {row : Option Nat} (h : a.grownBy w row) (o : Obj) : a.grownBy (w.alloc o) row :=
  only_below h ((Below.refl _ _).alloc h.size o)

/-- A list has been drawn: of the call's own, Q holds of it; the source is further on; nothing else changed. -/
def Drawn (E : TypeId) (Q : List Int → Prop) (g : Nat) (P : Int) (w : World) (e : Ending) (w' : World) : Prop :=
  ∃ A c zs, e = .returned (.slice A zs.length c) ∧ Q zs ∧ OwnI E w.heap.size w' A c zs ∧ zs.length ≤ c ∧ Rdr w' g P ∧ w.grownBy w' (some g)

theorem OwnI.cap {E : TypeId} {B : Nat} {w : World} {A : Option Addr} {c : Nat} {zs : List Int} (h : OwnI E B w A c zs) : zs.length ≤ c := by
  rcases h.2.2 with ⟨h1, h2⟩ | ⟨g, cap, cur, hv, _, _, hc, _⟩
  · simp only [Value.slice.injEq] at h1; omega
  · simp only [Value.slice.injEq] at hv; omega

theorem OwnI.offg {E : TypeId} {B : Nat} {w : World} {A : Option Addr} {c : Nat} {zs : List Int} (h : OwnI E B w A c zs) {g : Nat} (hg : g < B) : Off A g := h.off hg

/-- A polynomial as a draw makes it. -/
def SmallPoly (zs : List Int) : Prop := 1 ≤ zs.length ∧ zs.length ≤ 6 ∧ ∀ x ∈ zs, -1000 ≤ x ∧ x ≤ 1000

theorem mul_range (a b : Int) (ha : 0 ≤ a) (ha' : a < 256) (hb : 0 ≤ b) (hb' : b < 256) : 0 ≤ a * b ∧ a * b ≤ 70000 := by
  have h1 := Int.mul_nonneg ha hb
  have h2 := mul_bd a b 256 256 (by decide) (by omega) (by omega) (by omega) (by omega)
  omega

set_option maxHeartbeats 1600000 in
theorem l2Some_any (g : Nat) (P : Int) (w : World) (h : Rdr w g P) (hP : P ≤ 1000) :
    Calls Tryd.prog 34 #[.pointer (some ⟨g, 0, none⟩)] w fun e w' => Drawn 3 SmallPoly g (P + 20) w e w' := by
  obtain ⟨i0, hi, hz0, hz1, hz2⟩ := info_parts infoI
  have hg := h.lt
  have Hown0 := hd (OwnI.lit0 3 w)
  have r1 := h.below ((Below.refl w.heap.size w).alloc (Nat.le_refl _) (.cells #[] 3)) hg
  have Hr2 := hd (r1.below ((Below.refl (w.alloc (.cells #[] 3)).heap.size (w.alloc (.cells #[] 3))).alloc (Nat.le_refl _) (.cells #[.int .i64 10, .int .i64 100, .int .i64 1000, .int .i64 3] 3)) (by simp; omega))
  have Hlit : Hid (OwnI 3 (w.heap.size + 1) ((w.alloc (.cells #[] 3)).alloc (.cells #[.int .i64 10, .int .i64 100, .int .i64 1000, .int .i64 3] 3)) (some ⟨w.heap.size + 1, 0, none⟩) 4 [10, 100, 1000, 3]) := hd (by
    have hs1 : (w.alloc (.cells #[] 3)).heap.size = w.heap.size + 1 := by simp
    have := World.ownsRow_lit (base := (w.alloc (.cells #[] 3)).heap.size) (e := 3) (size := 1) (w.alloc (.cells #[] 3)) #[.int .i64 10, .int .i64 100, .int .i64 1000, .int .i64 3] 4 (Nat.le_refl _) (by simp [maxLen]) rfl
    rw [hs1] at this
    exact ⟨by simp, this⟩)
  clear h r1
  go_enter Tryd.func34, Tryd.ntmps34
  go_wp2_with fail
  refine (num_any g P _ 4 [10, 100, 1000, 3] _ Hr2.out (by omega) Hlit.out.si (Hlit.out.off (by omega)) (by simp)).mono ?_
  rintro e w1 ⟨s, rfl, hs, r3, g3⟩
  have hs3 : 3 ≤ s ∧ s ≤ 1000 := by simp at hs; omega
  obtain ⟨hs4, hs5⟩ := hs3
  have k1 : w.grownBy w1 (some g) := only_trans (only_alloc (only_alloc (World.grownBy.refl w _) _) _) g3
  have o1 : OwnI 3 w.heap.size w1 (some ⟨w.heap.size, 0, none⟩) 0 [] := (Hown0.out.alloc _).keep_lo g3 (fun r hr => by simp at hr; omega)
  clear hs g3
  go_wp2_with fail
  refine (pick_any g (P + 1) 5 _ r3 (by omega)).mono ?_
  rintro e w2 ⟨v, rfl, hv, r4, g4⟩
  obtain ⟨hv0, hv1⟩ := hv
  have hv2 := hv1 (by omega)
  have K2 := hd (only_trans k1 g4)
  have O2 := hd (o1.keep_lo g4 (fun r hr => by simp at hr; omega))
  have R2 := hd r4
  obtain ⟨v, rfl⟩ := Int.eq_ofNat_of_zero_le hv0
  clear k1 o1 r3 r4 g4 hv1
  go_wp2
  go_loopw [3, 5] (fun r i wr => ∃ (k : Nat) (A : Option Addr) (c : Nat) (zs : List Int), i = .int .i64 k ∧ k + zs.length = v + 1 ∧ r = .slice A zs.length c ∧ OwnI 3 w.heap.size wr A c zs ∧ (∀ x ∈ zs, -1000 ≤ x ∧ x ≤ 1000) ∧ Rdr wr g (P + 2 + 2 * zs.length) ∧ w.grownBy wr (some g))
    (fun _ i _ => (intOf i).toNat)
  case atStart => exact ⟨v + 1, _, _, [], by go_num, by simp, rfl, O2.out, by simp, R2.out.more (by simp; omega), K2.out⟩
  case round =>
    obtain ⟨k, A, c, zs, rfl, hk, rfl, own, hx, rd, gr⟩ := hrel
    have Own := hd own
    have Hx := hd hx
    have Rd := hd rd
    have Gr := hd gr
    have Hk := hd hk
    have hk6 : k + zs.length ≤ 5 := by omega
    have hsz : w.heap.size ≤ wr.heap.size := gr.size
    clear own hx rd gr hk
    by_cases hk0 : 0 < k
    · go_wp2_with fail
      refine (pick_any g (P + 2 + 2 * zs.length) 256 _ Rd.out (by omega)).mono ?_
      rintro e w3 ⟨a, rfl, ha, r5, g5⟩
      obtain ⟨ha0, ha1⟩ := ha
      have ha2 := ha1 (by omega)
      have Gr := hd (only_trans Gr.out g5)
      have Own := hd (Own.out.keep_lo g5 (fun r hr => by simp at hr; omega))
      clear g5 ha1
      go_wp2_with fail
      refine (pick_any g _ 256 _ r5 (by omega)).mono ?_
      rintro e w4 ⟨b, rfl, hb, r6, g6⟩
      obtain ⟨hb0, hb1⟩ := hb
      have hb2 := hb1 (by omega)
      have Gr := hd (only_trans Gr.out g6)
      have Own := hd (Own.out.keep_lo g6 (fun r hr => by simp at hr; omega))
      have R6 := hd r6
      have hsz4 : w.heap.size ≤ w4.heap.size := Gr.out.size
      obtain ⟨hm1, hm2⟩ := mul_range a b ha0 ha2 hb0 hb2
      have hmod1 : 0 ≤ a * b % (2 * s + 1) := Int.emod_nonneg _ (by omega)
      have hmod2 : a * b % (2 * s + 1) < 2 * s + 1 := Int.emod_lt_of_pos _ (by omega)
      clear g6 hb1 r5 r6
      go_wp2_with (at_builtin; refine wpList_app1 rfl _ _ 22 3 rfl w.heap.size i0 Tryd.underlying22 hi hz0 hz1 hz2 zs.length A c zs w4.heap.size (a * b % (2 * s + 1) - s) rfl rfl rfl (new_cell _ _ _) (Own.out.alloc _) (by omega) (by simp; omega) ?_; intro A2 c2 w5 hown2 hbel2 _)
      have Hown2 := hd hown2
      have Hgr2 := hd (only_below (only_alloc Gr.out _) hbel2)
      have Hrd2 := hd ((R6.out.below ((Below.refl w.heap.size w4).alloc hsz4 (.cells #[.int .i64 (a * b % (2 * s + 1) - s)] 3)) hg).below hbel2 hg)
      clear hown2 hbel2
      go_wp2
      go_roundw
      case rel =>
        refine ⟨k - 1, A2, c2, zs ++ [a * b % (2 * s + 1) - s], by go_num, by simp; have := Hk.out; omega, by simp, Hown2.out, ?_, Hrd2.out.more (by simp; omega), Hgr2.out⟩
        intro x hx
        rcases List.mem_append.1 hx with hx | hx
        · exact Hx.out x hx
        · simp at hx; subst hx; omega
      case measure => simp [intOf]; omega
    · obtain rfl : k = 0 := by omega
      have hzl : zs.length = v + 1 := by have := Hk.out; omega
      have Hzl := hd hzl
      have hz5 : 1 ≤ zs.length ∧ zs.length ≤ 5 := by omega
      obtain ⟨hz51, hz52⟩ := hz5
      clear hzl
      go_wp2_with fail
      refine (pick_any g (P + 2 + 2 * zs.length) 5 _ Rd.out (by omega)).mono ?_
      rintro e w3 ⟨a, rfl, ha, r5, g5⟩
      obtain ⟨ha0, ha1⟩ := ha
      have Gr := hd (only_trans Gr.out g5)
      have Own := hd (Own.out.keep_lo g5 (fun r hr => by simp at hr; omega))
      have R5 := hd r5
      have hsz3 : w.heap.size ≤ w3.heap.size := Gr.out.size
      clear g5 ha1 r5
      by_cases ha3 : a = 0
      · subst ha3
        go_wp2_with (at_builtin; refine wpList_app1 rfl _ _ 22 3 rfl w.heap.size i0 Tryd.underlying22 hi hz0 hz1 hz2 zs.length A c zs w3.heap.size 0 rfl rfl rfl (new_cell _ _ _) (Own.out.alloc _) (by omega) (by simp; omega) ?_; intro A2 c2 w5 hown2 hbel2 _)
        have Hown2 := hd hown2
        have Hgr2 := hd (only_below (only_alloc Gr.out _) hbel2)
        have Hrd2 := hd ((R5.out.below ((Below.refl w.heap.size w3).alloc hsz3 (.cells #[.int .i64 0] 3)) hg).below hbel2 hg)
        clear hown2 hbel2
        go_wp2
        go_ret
        refine ⟨A2, c2, zs ++ [0], by simp, ⟨by simp, by simp; omega, ?_⟩, Hown2.out, Hown2.out.cap, Hrd2.out.more (by omega), Hgr2.out⟩
        intro x hx
        rcases List.mem_append.1 hx with hx | hx
        · exact Hx.out x hx
        · simp at hx; subst hx; omega
      · have ha4 : (a == 0) = false := by simp [ha3]
        clear ha3
        go_wp2
        go_ret
        exact ⟨A, c, zs, rfl, ⟨by omega, by omega, Hx.out⟩, Own.out, Own.out.cap, R5.out.more (by omega), Gr.out⟩

end Go.Proofs.YtinhcdppdnmlgaaDoor

/- Contracts of the draws that sometimes spoil a polynomial. -/
namespace Go.Proofs.YtinhcdppdnmlgaaDoor
open Go.RowKit
set_option maxRecDepth 4000

/-- Below block B only block g may have changed. -/
structure Only (B g : Nat) (w w' : World) : Prop where
  os : w'.os = w.os
  tape : w'.tape = w.tape
  output : w'.output = w.output
  size : w.heap.size ≤ w'.heap.size
  block : ∀ k, k < B → k ≠ g → w'.heap[k]? = w.heap[k]?

theorem Only.refl (B g : Nat) (w : World) : Only B g w w := ⟨rfl, rfl, rfl, Nat.le_refl _, fun _ _ _ => rfl⟩
theorem Only.trans {B g : Nat} {a b c : World} (h : Only B g a b) (k : Only B g b c) : Only B g a c :=
  ⟨k.os.trans h.os, k.tape.trans h.tape, k.output.trans h.output, Nat.le_trans h.size k.size, fun i hi hne => (k.block i hi hne).trans (h.block i hi hne)⟩
theorem Only.grown {B g : Nat} {a b : World} (h : a.grownBy b (some g)) (hB : B ≤ a.heap.size) : Only B g a b :=
  ⟨h.os, h.tape, h.output, h.size, fun i hi hne => h.block i (by omega) (by simpa using hne)⟩
theorem Only.below {B B' g : Nat} {a b : World} (h : Below B' a b) (hB : B ≤ B') : Only B g a b :=
  ⟨h.os, h.tape, h.output, h.size, fun i hi _ => h.block i (by omega)⟩
theorem Only.grownBy {g : Nat} {a b : World} (h : Only a.heap.size g a b) : a.grownBy b (some g) :=
  ⟨h.os, h.tape, h.output, h.size, fun i hi hne => h.block i hi (by simpa using hne)⟩

/-- A list that has been spoiled, perhaps. -/
def Spoiled (E : TypeId) (Q : List Int → Prop) (B g : Nat) (P : Int) (w : World) (e : Ending) (w' : World) : Prop :=
  ∃ A c zs, e = .returned (.slice A zs.length c) ∧ Q zs ∧ OwnI E B w' A c zs ∧ zs.length ≤ c ∧ Rdr w' g P ∧ Only B g w w'

def badNums : List Int := [100000, 100001, -100000, -100001, 9223372036854775807]

theorem OwnI.cut0 {E : TypeId} {B : Nat} {w : World} {A : Option Addr} {c : Nat} {zs : List Int} (h : OwnI E B w A c zs) : OwnI E B w A c [] := by
  refine ⟨by simp, ?_⟩
  rcases h.2.2 with ⟨h1, h2⟩ | ⟨g, cap, cur, hv, h3, h4, h5, h6, h7, h8⟩
  · simp only [Value.slice.injEq] at h1
    obtain ⟨rfl, _, rfl⟩ := h1
    exact World.ownsRow_nil _ _ _ _
  · simp only [Value.slice.injEq] at hv
    obtain ⟨rfl, _, rfl⟩ := hv
    exact ⟨by simp, .inr ⟨g, c, cur, rfl, h3, h4, by simp, h6, h7, by simp⟩⟩

set_option maxHeartbeats 1600000 in
theorem l2Bad_any (B g : Nat) (P : Int) (A : Option Addr) (c : Nat) (zs : List Int) (w : World) (h : Rdr w g P) (hP : P ≤ 1000) (ho : OwnI 3 B w A c zs) (hg : g < B) (hB : B ≤ w.heap.size) (hl : 1 ≤ zs.length) (hl' : zs.length ≤ 8) :
    Calls Tryd.prog 45 #[.pointer (some ⟨g, 0, none⟩), .slice A zs.length c] w fun e w' => Spoiled 3 (fun zs => zs.length ≤ 8) B g (P + 10) w e w' := by
  obtain ⟨i0, hi, hz0, hz1, hz2⟩ := info_parts infoI
  have H := hd h
  have Ho := hd ho
  have hcap := ho.cap
  clear h ho
  go_enter Tryd.func45, Tryd.ntmps45
  go_wp2_with fail
  refine (pick_any g P zs.length _ H.out (by omega)).mono ?_
  rintro e w1 ⟨k, rfl, hk, r1, g1⟩
  obtain ⟨hk0, hk1⟩ := hk
  have hk2 := hk1 (by omega)
  obtain ⟨k, rfl⟩ := Int.eq_ofNat_of_zero_le hk0
  have hkz : k < zs.length := by omega
  have O1 := hd (Ho.out.keep_lo g1 (fun r hr => by simp at hr; omega))
  have N1 := hd (Only.grown (B := B) g1 hB)
  have hB1 : B ≤ w1.heap.size := Nat.le_trans hB g1.size
  clear hk1 g1
  go_wp2_with fail
  refine (pick_any g (P + 1) 40 _ r1 (by omega)).mono ?_
  rintro e w2 ⟨v, rfl, hv, r2, g2⟩
  obtain ⟨hv0, hv1⟩ := hv
  have O2 := hd (O1.out.keep_lo g2 (fun r hr => by simp at hr; omega))
  have N2 := hd (N1.out.trans (Only.grown (B := B) g2 hB1))
  have hB2 : B ≤ w2.heap.size := Nat.le_trans hB1 g2.size
  have R2 := hd r2
  clear hv1 r1 r2 g2
  by_cases h0 : v = 0
  · subst h0
    have Hlit : Hid (OwnI 3 w2.heap.size (w2.alloc (.cells #[.int .i64 100000, .int .i64 100001, .int .i64 (-100000), .int .i64 (-100001), .int .i64 9223372036854775807] 3)) (some ⟨w2.heap.size, 0, none⟩) 5 badNums) := hd
      ⟨by simp [badNums], World.ownsRow_lit _ #[.int .i64 100000, .int .i64 100001, .int .i64 (-100000), .int .i64 (-100001), .int .i64 9223372036854775807] 5 (Nat.le_refl _) (by simp [maxLen]) rfl⟩
    have hgw : g < w2.heap.size := by omega
    have Ra := hd (R2.out.below ((Below.refl w2.heap.size w2).alloc (Nat.le_refl _) (.cells #[.int .i64 100000, .int .i64 100001, .int .i64 (-100000), .int .i64 (-100001), .int .i64 9223372036854775807] 3)) hgw)
    have Hbl : Hid (0 < badNums.length) := hd (by simp [badNums])
    go_wp2_with fail
    refine (num_any g (P + 1 + 1) _ 5 badNums _ Ra.out (by omega) Hlit.out.si (Hlit.out.off hgw) Hbl.out).mono ?_
    rintro e w3 ⟨x, rfl, hx, r3, g3⟩
    have O3 := hd ((O2.out.alloc _).keep_lo g3 (fun r hr => by simp at hr; omega))
    have N3 := hd ((N2.out.trans (Only.below ((Below.refl w2.heap.size w2).alloc (Nat.le_refl _) _) hB2)).trans (Only.grown (B := B) g3 (by simp; omega)))
    obtain ⟨gp, o, ho, rfl, hc, hf⟩ := O3.out.at_ hkz
    have hgp : B ≤ gp := (O3.out.2.lt gp rfl).1
    have O4 := hd (O3.out.set k x)
    have bel4 := (Below.refl B w3).setCell (p := ⟨gp, k, none⟩) hgp (.int .i64 x)
    have R4 := hd (r3.below bel4 hg)
    have N4 := hd (N3.out.trans (Only.below bel4 (Nat.le_refl _)))
    have Hlen : Hid ((zs.set k x).length = zs.length) := hd (by simp)
    clear hx r3 g3 ho bel4 hgp
    go_wp2
    go_ret
    exact ⟨some ⟨gp, 0, none⟩, c, zs.set k x, by rw [Hlen.out]; rfl, by show (zs.set k x).length ≤ 8; rw [Hlen.out]; exact hl', O4.out, by rw [Hlen.out]; exact hcap, R4.out.more (by omega), N4.out⟩
  by_cases h1 : v = 1
  · subst h1
    go_wp2
    go_ret
    exact ⟨A, c, [], rfl, by simp, O2.out.cut0, by simp, R2.out.more (by omega), N2.out⟩
  by_cases h2 : v = 2
  · subst h2
    go_wp2
    go_loopw [1] (fun r wr => ∃ (A' : Option Addr) (c' : Nat) (ys : List Int), r = .slice A' ys.length c' ∧ ys.length ≤ 8 ∧ OwnI 3 B wr A' c' ys ∧ Rdr wr g (P + 1 + 1) ∧ Only B g w wr)
      (fun r _ => 8 - sliceLen r)
    case atStart => exact ⟨A, c, zs, rfl, hl', O2.out, R2.out, N2.out⟩
    case round =>
      clear O2 N2 R2 hB2 O1 N1 hB1 Ho H
      obtain ⟨A', c', ys, rfl, hy8, own, rd, nn⟩ := hrel
      have Own := hd own
      have Rd := hd rd
      have Nn := hd nn
      have hBr : B ≤ wr.heap.size := Nat.le_trans hB nn.size
      clear own rd nn
      by_cases hlt : ys.length < 8
      · go_wp2_with (at_builtin; refine wpList_app1 rfl _ _ 22 3 rfl B i0 Tryd.underlying22 hi hz0 hz1 hz2 ys.length A' c' ys wr.heap.size 1 rfl rfl rfl (new_cell _ _ _) (Own.out.alloc _) (by omega) (by simp; omega) ?_; intro A2 c2 w5 hown2 hbel2 _)
        have Hown2 := hd hown2
        have bel5 := ((Below.refl B wr).alloc hBr (.cells #[.int .i64 1] 3)).trans hbel2
        have R5 := hd (Rd.out.below bel5 hg)
        have N5 := hd (Nn.out.trans (Only.below bel5 (Nat.le_refl _)))
        clear hown2 hbel2 bel5
        go_wp2
        go_roundw
        case rel => exact ⟨A2, c2, ys ++ [1], by simp, by simp; omega, Hown2.out, R5.out, N5.out⟩
        case measure => simp [sliceLen]; omega
      · go_wp2
        go_ret
        exact ⟨A', c', ys, rfl, hy8, Own.out, Own.out.cap, Rd.out.more (by omega), Nn.out⟩
  · have e0 : (v == 0) = false := by simp [h0]
    have e1 : (v == 1) = false := by simp [h1]
    have e2 : (v == 2) = false := by simp [h2]
    clear h0 h1 h2
    go_wp2
    go_ret
    exact ⟨A, c, zs, rfl, hl', O2.out, hcap, R2.out.more (by omega), N2.out⟩

/-- A list has been drawn, of whatever content. -/
def DrawnAny (E : TypeId) (g : Nat) (P : Int) (w : World) (e : Ending) (w' : World) : Prop := Drawn E (fun zs => zs.length ≤ 8) g P w e w'

set_option maxHeartbeats 800000 in
theorem l2Open_any (g : Nat) (P : Int) (w : World) (h : Rdr w g P) (hP : P ≤ 900) :
    Calls Tryd.prog 28 #[.pointer (some ⟨g, 0, none⟩)] w fun e w' => DrawnAny 3 g (P + 30) w e w' := by
  have H := hd h
  have hg := h.lt
  clear h
  go_enter Tryd.func28, Tryd.ntmps28
  go_wp2_with fail
  refine (l2Some_any g P _ H.out (by omega)).mono ?_
  rintro e w1 ⟨A, c, zs, rfl, hq, own, hcap, rd, gr⟩
  obtain ⟨q1, q2, q3⟩ := hq
  have Own := hd own
  have Rd := hd rd
  have Gr := hd gr
  have hsz : w.heap.size ≤ w1.heap.size := gr.size
  clear own rd gr q3
  go_wp2_with fail
  refine (l2Bad_any w.heap.size g (P + 20) A c zs _ Rd.out (by omega) Own.out hg hsz q1 (by omega)).mono ?_
  rintro e w2 ⟨A2, c2, ys, rfl, hy, own2, hcap2, rd2, nn⟩
  have Own2 := hd own2
  have Rd2 := hd (rd2.more (show P + 20 + 10 ≤ P + 30 by omega))
  have Gr2 := hd ((Only.grown Gr.out (Nat.le_refl _)).trans nn).grownBy
  clear own2 rd2 nn
  go_wp2
  go_ret
  exact ⟨A2, c2, ys, rfl, hy, Own2.out, hcap2, Rd2.out, Gr2.out⟩

/-- What a law is given by a draw of one polynomial. -/
def Drew (E : TypeId) (w : World) (e : Ending) (w' : World) : Prop :=
  ∃ A c zs, e = .returned (.slice A zs.length c) ∧ zs.length ≤ 8 ∧ OwnI E w.heap.size w' A c zs ∧ zs.length ≤ c ∧ Below w.heap.size w w'

theorem grown_new {a b c : World} {g : Nat} (hb : Below a.heap.size a b) (hg : a.heap.size ≤ g) (k : b.grownBy c (some g)) : Below a.heap.size a c :=
  hb.grown k hb.size fun r hr => by simp at hr; omega

theorem drew_of {E : TypeId} {w w1 w2 : World} {g : Nat} {P : Int} {e : Ending} (hb : Below w.heap.size w w1) (hg : w.heap.size ≤ g) (h : DrawnAny E g P w1 e w2) : Drew E w e w2 := by
  obtain ⟨A, c, zs, rfl, hl, ho, hc, _, hgr⟩ := h
  exact ⟨A, c, zs, rfl, hl, ho.low hb.size, hc, grown_new hb hg hgr⟩

end Go.Proofs.YtinhcdppdnmlgaaDoor

/- Contracts of the draws of one polynomial, and of one polynomial and a number. -/
namespace Go.Proofs.YtinhcdppdnmlgaaDoor
open Go.RowKit
set_option maxRecDepth 4000

/-- What a law is given by a draw of a polynomial and a number. -/
def DrewN (E : TypeId) (w : World) (e : Ending) (w' : World) : Prop :=
  ∃ A c zs v, e = .returned (.tuple #[.slice A zs.length c, .int .i64 v]) ∧ zs.length ≤ 8 ∧ OwnI E w.heap.size w' A c zs ∧ zs.length ≤ c ∧ Below w.heap.size w w' ∧ (-9223372036854775808 ≤ v ∧ v ≤ 9223372036854775807)

end Go.Proofs.YtinhcdppdnmlgaaDoor

/- Contracts of the draws of an argument, and of a polynomial and an argument. -/
namespace Go.Proofs.YtinhcdppdnmlgaaDoor
open Go.RowKit
set_option maxRecDepth 4000

/-- A number that fits. -/
def Fits (v : Int) : Prop := -9223372036854775808 ≤ v ∧ v ≤ 9223372036854775807
def numNums : List Int := [200, 201, -200, -201, 9223372036854775807, -9223372036854775808]

end Go.Proofs.YtinhcdppdnmlgaaDoor
