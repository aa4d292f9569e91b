/- Merged out of the texts PolyA PolyB. -/
import Derived.Test.YtkmblobfamhoiaaProg
import Derived.Test.YtkmblobfamhoiaaGrA
import Derived.Test.YtkmblobfamhoiaaMem
import Derived.Deep.QuietTactic
import Derived.BigQuiet
/- Contracts of the program's small functions on numbers and lists of numbers: each returns what the plain function of its name reckons, and changes nothing that was there before. -/
namespace Go.Proofs.Ytkmblobfamhoiaa
open Go.RowKit
set_option maxRecDepth 4000

theorem infoI : (Try.prog.info? 3).map (fun i => (i.zero, i.size, i.bytes)) = some (some (.int .i64 0), 1, 8) := by kernel_rfl

theorem within_any (n b : Int) (w : World) (hb : 0 ≤ b) (hb' : b ≤ 1000000000000) :
    Calls Try.prog 94 #[.int .i64 n, .int .i64 b] w fun e w' => e = .returned (.bool (inB n b)) ∧ w = w' := by
  by_cases h1 : -b ≤ n
  · by_cases h2 : n ≤ b
    · have hfin : inB n b = true := inB_iff.2 ⟨h1, h2⟩
      have Hf := hd hfin
      clear hfin
      go_enter Try.func94, Try.ntmps94
      go_wp2
      go_ret
      exact ⟨by rw [Hf.out]; simp, rfl⟩
    · have hfin : inB n b = false := by simp [inB, h2]
      have Hf := hd hfin
      clear hfin
      go_enter Try.func94, Try.ntmps94
      go_wp2
      go_ret
      exact ⟨by rw [Hf.out]; simp, rfl⟩
  · have hfin : inB n b = false := by simp [inB, h1]
    have Hf := hd hfin
    clear hfin
    go_enter Try.func94, Try.ntmps94
    go_wp2
    go_ret
    exact ⟨by rw [Hf.out]; simp, rfl⟩

theorem all_take_succ {α : Type} (p : α → Bool) (zs : List α) (k : Nat) (x : α) (hx : zs[k]? = some x) (h : (zs.take k).all p = true) (h2 : p x = true) : (zs.take (k + 1)).all p = true := by
  obtain ⟨hk, rfl⟩ := List.getElem?_eq_some_iff.1 hx
  rw [List.take_succ_eq_append_getElem hk, List.all_append, h]
  simp [h2]
theorem all_false_of {α : Type} (p : α → Bool) (zs : List α) (k : Nat) (x : α) (hx : zs[k]? = some x) (h2 : p x = false) : zs.all p = false := by
  rw [List.all_eq_false]
  exact ⟨x, List.mem_of_getElem? hx, by simp [h2]⟩

theorem allWithin_any (A : Option Addr) (c : Nat) (zs : List Int) (b : Int) (w : World) (h : SI w A zs) (hb : 0 ≤ b) (hb' : b ≤ 1000000000000) :
    Calls Try.prog 130 #[.slice A zs.length c, .int .i64 b] w fun e w' => e = .returned (.bool (allB zs b)) ∧ w = w' := by
  have hl := h.len
  have Hh := hd h
  clear h
  go_enter Try.func130, Try.ntmps130
  go_wp2
  go_loop [9] (fun i => ∃ k : Nat, k ≤ zs.length ∧ i = .int .i64 k ∧ (zs.take k).all (fun x => inB x b) = true) (fun i => zs.length - (intOf i).toNat)
  case atStart => exact ⟨0, by omega, rfl, by simp⟩
  case round =>
    obtain ⟨k, hk, rfl, ht⟩ := hrel
    have Ht := hd ht
    clear ht
    by_cases hlt : k < zs.length
    · obtain ⟨x, b0, off, hx, rfl, hbw, hc⟩ := Hh.out.at_ hlt
      have Hx := hd hx
      clear hx
      by_cases hin : inB x b = true
      · go_wp2_with (go_at_call 94; refine (within_any x b _ hb hb').mono ?_; rintro e w' ⟨rfl, rfl⟩)
        go_round
        case rel => exact ⟨k + 1, by omega, by go_num, all_take_succ _ _ _ _ Hx.out Ht.out hin⟩
        case measure => simp [intOf]; omega
      · have hin' : inB x b = false := by simpa using hin
        clear hin
        have Hf := hd (all_false_of (fun x => inB x b) zs k x Hx.out hin')
        go_wp2_with (go_at_call 94; refine (within_any x b _ hb hb').mono ?_; rintro e w' ⟨rfl, rfl⟩)
        go_ret
        exact ⟨ret_bool Hf.out.symm, rfl⟩
    · have hke : k = zs.length := by omega
      have Hf : Hid (allB zs b = true) := hd (by have := Ht.out; rw [hke, List.take_length] at this; exact this)
      clear hke
      go_wp2
      go_ret
      exact ⟨ret_bool Hf.out.symm, rfl⟩

theorem PolyValid_any (A : Option Addr) (c : Nat) (p : List Int) (w : World) (h : SI w A p) :
    Calls Try.prog 116 #[.slice A p.length c] w fun e w' => e = .returned (.bool (validP p)) ∧ w = w' := by
  have hl := h.len
  have Hh := hd h
  clear h
  by_cases h1 : 1 ≤ p.length
  · by_cases h2 : p.length ≤ 7
    · have Hf : Hid (validP p = allB p 100000) := hd (by simp [validP, h1, h2])
      go_enter Try.func116, Try.ntmps116
      go_wp2_with (go_at_call 130; refine (allWithin_any A c p 100000 _ Hh.out (by decide) (by decide)).mono ?_; rintro e w' ⟨rfl, rfl⟩)
      go_ret
      exact ⟨ret_bool Hf.out.symm, rfl⟩
    · have Hf : Hid (validP p = false) := hd (by simp [validP, h2])
      go_enter Try.func116, Try.ntmps116
      go_wp2
      go_ret
      exact ⟨ret_bool Hf.out.symm, rfl⟩
  · have Hf : Hid (validP p = false) := hd (by simp [validP, h1])
    go_enter Try.func116, Try.ntmps116
    go_wp2
    go_ret
    exact ⟨ret_bool Hf.out.symm, rfl⟩

theorem choose_any (n : Int) (k : Nat) (w : World) (hn : -300 ≤ n) (hn' : n ≤ 300) (hk : k ≤ 6) :
    Calls Try.prog 103 #[.int .i64 n, .int .i64 k] w fun e w' => e = .returned (.int .i64 (chs n k)) ∧ w = w' := by
  go_enter Try.func103, Try.ntmps103
  go_wp2
  go_loop [5, 8] (fun r i => ∃ j : Nat, j ≤ k ∧ i = .int .i64 j ∧ r = .int .i64 (chs n j)) (fun _ i => k - (intOf i).toNat)
  case atStart => exact ⟨0, by omega, rfl, rfl⟩
  case round =>
    obtain ⟨j, hj, rfl, rfl⟩ := hrel
    by_cases hlt : j < k
    · have hm := chs_mul n hn hn' j (by omega)
      have ht := tdiv_bd _ _ j hm.1 hm.2
      have HS : Hid (chs n (j + 1) = (chs n j * (n - j)).tdiv (j + 1)) := rfl
      obtain ⟨hm1, hm2⟩ := hm
      obtain ⟨ht1, ht2⟩ := ht
      go_wp2
      go_round
      case rel => exact ⟨j + 1, by omega, by go_num, by rw [HS.out]⟩
      case measure => simp [intOf]; omega
    · obtain rfl : j = k := by omega
      go_wp2
      go_ret
      exact ⟨rfl, rfl⟩

/-- The bounds of a sum of a polynomial's value: each running sum and each product fits. -/
def ValOk (p : List Int) (n : Int) : Prop :=
  ∀ (k : Nat) (x : Int), p[k]? = some x → -1000000000000000000 ≤ x * chs n k ∧ x * chs n k ≤ 1000000000000000000 ∧ -4000000000000000000 ≤ val (p.take k) n ∧ val (p.take k) n ≤ 4000000000000000000

theorem ValOk.of {p : List Int} (hp : p.length ≤ 7) (hx : ∀ x ∈ p, -100000 ≤ x ∧ x ≤ 100000) {n : Int} (hn : -300 ≤ n) (hn' : n ≤ 300) : ValOk p n := by
  intro k x hk
  have hlt : k < p.length := (List.getElem?_eq_some_iff.1 hk).1
  have h1 := hx x (List.mem_of_getElem? hk)
  have h2 := chs_bd n hn hn' k (by omega)
  have h3 := chB_le k (by omega)
  have h4 := mul_bd x (chs n k) 100000 1064089721800 (by decide) h1.1 h1.2 (by omega) (by omega)
  have h5 := val_bd (p := p.take k) (by rw [List.length_take]; omega) (fun y hy => hx y (List.mem_of_mem_take hy)) n hn hn'
  omega

theorem valueAt_any (A : Option Addr) (c : Nat) (p : List Int) (n : Int) (w : World) (h : SI w A p) (hp : p.length ≤ 7) (hv : ValOk p n) (hn : -300 ≤ n) (hn' : n ≤ 300) :
    Calls Try.prog 117 #[.slice A p.length c, .int .i64 n] w fun e w' => e = .returned (.int .i64 (val p n)) ∧ w = w' := by
  have Hh := hd h
  have Hv := hd hv
  clear h hv
  go_enter Try.func117, Try.ntmps117
  go_wp2
  go_loop [5, 10] (fun s i => ∃ k : Nat, k ≤ p.length ∧ i = .int .i64 k ∧ s = .int .i64 (val (p.take k) n)) (fun _ i => p.length - (intOf i).toNat)
  case atStart => exact ⟨0, by omega, rfl, by simp [val, valF]⟩
  case round =>
    obtain ⟨k, hk, rfl, rfl⟩ := hrel
    by_cases hlt : k < p.length
    · obtain ⟨x, b0, off, hx, rfl, hbw, hc⟩ := Hh.out.at_ hlt
      obtain ⟨v1, v2, v3, v4⟩ := Hv.out k x hx
      have HS := hd (val_take p k x n hx)
      clear hx
      have hk6 : k ≤ 6 := by omega
      go_wp2_with (go_at_call 103; refine (choose_any n k _ hn hn' hk6).mono ?_; rintro e w' ⟨rfl, rfl⟩)
      go_round
      case rel => exact ⟨k + 1, by omega, by go_num, by rw [HS.out]⟩
      case measure => simp [intOf]; omega
    · have hke : k = p.length := by omega
      have Hf : Hid (val (p.take k) n = val p n) := hd (by rw [hke, List.take_length])
      clear hke
      go_wp2
      go_ret
      exact ⟨ret_int Hf.out, rfl⟩

theorem neighbors_any (A : Option Addr) (c : Nat) (zs : List Int) (w : World) (h : SI w A zs) (hB : ∀ x ∈ zs, -2000000000000000000 ≤ x ∧ x ≤ 2000000000000000000) :
    Calls Try.prog 69 #[.slice A zs.length c] w fun e w' => RetI 3 w.heap.size w (nbr zs) e w' := by
  obtain ⟨i0, hi, hz0, hz1, hz2⟩ := info_parts infoI
  have hl := h.len
  have Hh := hd h
  have HB := hd hB
  clear h hB
  by_cases h2 : zs.length < 2
  · have Hn := hd (nbr_short zs h2)
    go_enter Try.func69, Try.ntmps69
    go_wp2
    go_ret
    exact RetI.empty Hn.out (Below.refl _ _)
  · obtain ⟨m, hm⟩ : ∃ m, m + 1 = zs.length := ⟨zs.length - 1, by omega⟩
    have Hnl := hd (nbr_length zs)
    have Hm := hd hm
    clear hm
    have hm1 : 1 ≤ m := by have := Hm.out; omega
    have hm2 : m ≤ 17592186044416 := by have := Hm.out; omega
    go_enter Try.func69, Try.ntmps69
    go_wp2_with (at_make; refine wpList_make_full _ rfl _ _ 23 rfl w.heap.size 3 i0 (.int .i64 0) 1 Try.underlying23 hi hz0 hz1 .i64 .i64 _ _ m rfl rfl (by have := Hm.out; omega) (by have := Hm.out; omega) (by rw [hz2]; omega) (by unfold maxLen; omega) (Nat.le_refl _) ?_; intro w1 hown hgrow)
    have how0 := OW.made hown hm2
    have hbel0 : Below w.heap.size w w1 := (Below.refl _ _).grown hgrow (Nat.le_refl _) (by simp)
    clear hown hgrow
    go_loopw [14] (fun i wr => ∃ (k : Nat) (xs : List Int), k ≤ m ∧ i = .int .i64 k ∧ xs.take k = (nbr zs).take k ∧ OW 3 w.heap.size wr w.heap.size m xs ∧ Below w.heap.size w wr)
      (fun i _ => m - (intOf i).toNat)
    case atStart => exact ⟨0, List.replicate m 0, by omega, rfl, rfl, how0, hbel0⟩
    case round =>
      clear how0 hbel0
      obtain ⟨k, xs, hk, rfl, hx, how, hbel⟩ := hrel
      have Hx := hd hx
      clear hx
      by_cases hlt : k < m
      · have hlk : k < zs.length := by have := Hm.out; omega
        have hk1 : k + 1 < zs.length := by have := Hm.out; omega
        have hk1' : (k : Int) + 1 < zs.length := by omega
        have h' := Hh.out.below hbel
        obtain ⟨x, b, off, hxk, rfl, hbw, hc0⟩ := h'.at_ hlk
        obtain ⟨y, b', off', hyk, he, hbw', hc1⟩ := h'.at_ hk1
        simp only [Option.some.injEq, Addr.mk.injEq, and_true] at he
        obtain ⟨rfl, rfl⟩ := he
        have hbx := HB.out x (List.mem_of_getElem? hxk)
        have hby := HB.out y (List.mem_of_getElem? hyk)
        obtain ⟨o, ho, hco⟩ := how.cell hlt
        have hfo := how.frozen k
        have H2 := hd (nbr_at zs k x y hxk hyk)
        clear hxk hyk h' ho hk1
        go_wp2
        go_region
        go_wp2
        go_roundw
        case rel => exact ⟨k + 1, xs.set k (y - x), by omega, by go_num, take_set_succ (by have := how.1; omega) Hx.out H2.out, how.set k _, (hbel.setCell (Nat.le_refl _) _).drew⟩
        case measure => simp [intOf]; omega
      · obtain rfl : k = m := by omega
        have H4 : Hid (xs = nbr zs) := hd (by
          have h1 := Hx.out
          have h2 := Hnl.out
          have h3 := Hm.out
          rw [List.take_of_length_le (by have := how.1; omega), List.take_of_length_le (by omega)] at h1
          exact h1)
        go_wp2
        go_ret
        exact RetI.ow how H4.out hbel

end Go.Proofs.Ytkmblobfamhoiaa

/- Contracts of first differences, of a checked polynomial, of a value. -/
namespace Go.Proofs.Ytkmblobfamhoiaa
open Go.RowKit
set_option maxRecDepth 4000

/-- The slice's cells do not lie in block g. -/
def Off (A : Option Addr) (g : Nat) : Prop := ∀ a, A = some a → a.block ≠ g

theorem SI.grown {w w' : World} {A : Option Addr} {zs : List Int} {g : Nat} (h : SI w A zs) (hg : w.grownBy w' (some g)) (ho : Off A g) : SI w' A zs :=
  ⟨h.1, fun k v hk => by
    obtain ⟨b, off, e, hb, hv⟩ := h.2 k v hk
    have hne := ho _ e
    exact ⟨b, off, e, Nat.lt_of_lt_of_le hb hg.size, hg.cell hv (by simpa using hne)⟩⟩

theorem SI.alloc {w : World} {A : Option Addr} {zs : List Int} (h : SI w A zs) (o : Obj) : SI (w.alloc o) A zs := h.below ((Below.refl _ _).alloc (Nat.le_refl _) o)

theorem OwnI.off {E : TypeId} {B : Nat} {w : World} {A : Option Addr} {c : Nat} {zs : List Int} (h : OwnI E B w A c zs) {g : Nat} (hg : g < B) : Off A g := by
  intro a ha
  subst ha
  have := (h.2.lt a.block rfl).1
  omega

theorem nbrs_zero_at (zs : List Int) (k : Nat) (hk : k < zs.length) : ∃ x, (nbrs k zs)[0]? = some x := by
  have : 0 < (nbrs k zs).length := by rw [nbrs_length]; omega
  exact ⟨_, List.getElem?_eq_getElem this⟩

set_option maxHeartbeats 400000 in
theorem firstDifferences_any (A : Option Addr) (c : Nat) (zs : List Int) (w : World) (h : SI w A zs) (hB : ∀ k, k < zs.length → ∀ x ∈ nbrs k zs, -2000000000000000000 ≤ x ∧ x ≤ 2000000000000000000) :
    Calls Try.prog 72 #[.slice A zs.length c] w fun e w' => RetI 3 w.heap.size w (fd zs) e w' := by
  obtain ⟨i0, hi, hz0, hz1, hz2⟩ := info_parts infoI
  have hl := h.len
  have Hh := hd h
  have HB := hd hB
  clear h hB
  go_enter Try.func72, Try.ntmps72
  go_wp2_with (at_make; refine wpList_make_own _ rfl _ _ 23 rfl w.heap.size 3 i0 (.int .i64 0) 1 Try.underlying23 hi hz0 hz1 .i64 .i64 _ zs.length rfl rfl rfl (by rw [hz2]; omega) (by unfold maxLen; omega) (Nat.le_refl _) ?_; intro w1 hown hgrow)
  have Hown0 := hd hown
  have hbel0 : Below w.heap.size w w1 := (Below.refl _ _).grown hgrow (Nat.le_refl _) (by simp)
  have Hs0 : Hid (SI w1 A zs) := hd (Hh.out.below hbel0)
  have Hoff0 : Hid (zs = [] ∨ Off A w.heap.size) := hd (by
    by_cases hz : 0 < zs.length
    · right
      obtain ⟨x, b, off, _, e, hb, _⟩ := Hh.out.at_ hz
      intro a ha
      rw [e] at ha
      simp only [Option.some.injEq] at ha
      subst ha
      simp; omega
    · left; exact List.eq_nil_of_length_eq_zero (by omega))
  have hsz : w.heap.size < w1.heap.size := by have := hown.lt _ rfl; omega
  clear hown hgrow
  go_loopw [3, 4] (fun r row wr => ∃ (k : Nat) (A' : Option Addr) (c' : Nat), k ≤ zs.length ∧ r = .slice (some ⟨w.heap.size, 0, none⟩) k zs.length ∧ row = .slice A' (nbrs k zs).length c' ∧ SI wr A' (nbrs k zs) ∧ (nbrs k zs = [] ∨ Off A' w.heap.size) ∧
      wr.ownsRow w.heap.size 3 1 (.slice (some ⟨w.heap.size, 0, none⟩) k zs.length) k (((fd zs).take k).map (Value.int .i64)) ∧ Below w.heap.size w wr ∧ w.heap.size < wr.heap.size)
    (fun r _ _ => zs.length - sliceLen r)
  case atStart => exact ⟨0, A, c, by omega, rfl, rfl, Hs0.out, Hoff0.out, by simpa using Hown0.out, hbel0, hsz⟩
  case round =>
    clear hbel0 hsz
    obtain ⟨k, A', c', hk, rfl, rfl, hs, hoff, hown, hbel, hsz⟩ := hrel
    have Hs := hd hs
    have Hoff := hd hoff
    have Hown := hd hown
    clear hs hoff hown
    have Hln := hd (nbrs_length k zs)
    by_cases hlt : k < zs.length
    · have hpos : 0 < (nbrs k zs).length := by rw [Hln.out]; omega
      obtain ⟨x, b, off, hx, rfl, hbw, hc⟩ := Hs.out.at_ hpos
      have Hfk := hd (fd_at zs k x hx)
      have hne : b ≠ w.heap.size := by
        rcases Hoff.out with h0 | h0
        · rw [h0] at hpos; simp at hpos
        · exact h0 _ rfl
      clear hx
      rw [Nat.add_zero] at hc
      go_wp2_with (at_builtin; refine wpList_append_fits _ rfl _ _ 23 rfl w.heap.size 3 i0 1 Try.underlying23 hi hz1 w.heap.size k zs.length _ rfl (Hown.out.alloc _) ⟨wr.heap.size, 0, none⟩ 1 1 [.int .i64 x] rfl rfl ?c1 ?c2 (by omega) ?_)
      case c1 =>
        intro j u hj
        match j, hj with
        | 0, hj => simp at hj; subst hj; simp [Addr.add]
      case c2 => intro u hu; simp at hu; subst hu; rfl
      intro w2 hown2 hgrow2
      have hx2 : SI w2 (some ⟨b, off, none⟩) (nbrs k zs) := (Hs.out.alloc _).grown hgrow2 (fun a ha => by simp only [Option.some.injEq] at ha; subst ha; exact hne)
      have Hx2 := hd hx2
      have HB2 := hd (HB.out k hlt)
      have hbel2 : Below w.heap.size w w2 := (hbel.alloc (Nat.le_of_lt hsz) _).grown hgrow2 (by simp; omega) (by simp)
      have hsz2 : w.heap.size < w2.heap.size := by have := hgrow2.size; simp at this; omega
      have Hown2 : Hid (w2.ownsRow w.heap.size 3 1 (.slice (some ⟨w.heap.size, 0, none⟩) (k + 1) zs.length) (k + 1) (((fd zs).take (k + 1)).map (Value.int .i64))) := hd (by
        have hfk := Hfk.out
        obtain ⟨hkl, hkx⟩ := List.getElem?_eq_some_iff.1 hfk
        rw [List.take_succ_eq_append_getElem hkl, hkx]
        simpa using hown2)
      clear hx2 hown2 hgrow2
      go_wp2_with (go_at_call 69; refine (neighbors_any (some ⟨b, off, none⟩) c' (nbrs k zs) _ Hx2.out HB2.out).mono ?_; rintro e w3 ⟨A3, c3, rfl, hown3, hbel3⟩)
      have hown3' : OwnI 3 w2.heap.size w3 A3 c3 (nbrs (k + 1) zs) := hown3
      have hb3 := hbel3.mono (Nat.le_of_lt hsz2)
      go_roundw
      case rel =>
        refine ⟨k + 1, A3, c3, by omega, rfl, rfl, hown3'.si, .inr (hown3'.off hsz2), ?_, hbel2.trans hb3, Nat.lt_of_lt_of_le hsz2 hbel3.size⟩
        exact Hown2.out.kept (row := none) ⟨hbel3.os, hbel3.tape, hbel3.output, hbel3.size, fun j hj _ => hbel3.block j hj⟩ (.inr (by simp [Value.ownBlock]))
      case measure => simp [sliceLen]; omega
    · obtain rfl : k = zs.length := by omega
      have hz : (nbrs zs.length zs).length = 0 := by rw [Hln.out]; omega
      have hfl := fd_length zs
      have Hf : Hid (OwnI 3 w.heap.size wr (some ⟨w.heap.size, 0, none⟩) zs.length (fd zs)) := hd ⟨by omega, by
        have := Hown.out
        rw [List.take_of_length_le (by omega)] at this
        rw [hfl]; exact this⟩
      have Hz := hd hz
      have Hfl := hd hfl
      have hz0' : ¬ (0 : Int) < (nbrs zs.length zs).length := by omega
      clear hz hfl
      go_wp2
      go_ret
      exact RetI.own Hf.out Hfl.out.symm hbel

theorem firstDifferences_n (n : Nat) (A : Option Addr) (c : Nat) (zs : List Int) (w : World) (hn : zs.length = n) (h : SI w A zs) (hB : ∀ k, k < zs.length → ∀ x ∈ nbrs k zs, -2000000000000000000 ≤ x ∧ x ≤ 2000000000000000000) :
    Calls Try.prog 72 #[.slice A n c] w fun e w' => RetI 3 w.heap.size w (fd zs) e w' := by
  subst hn; exact firstDifferences_any A c zs w h hB

end Go.Proofs.Ytkmblobfamhoiaa
