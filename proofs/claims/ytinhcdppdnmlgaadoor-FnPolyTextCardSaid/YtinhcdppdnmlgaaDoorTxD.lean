/- The reference's cut of a text at its blanks. -/
import Derived.Test.YtinhcdppdnmlgaaDoorTxS
import Derived.Test.YtinhcdppdnmlgaaDoorGrD
namespace Go.Proofs.YtinhcdppdnmlgaaDoor
open Go.RowKit
set_option maxRecDepth 4000

/-- append of one element onto a slice of the call's own, however long. -/
theorem wpList_appH {α : Type} {f : α → Value} {P : Program} {w : World} {ops : Array Oper} {rest : List Oper} {o : Oper} {a : Act} {Q : Exit → Act → World → Prop} (hg : o.guard = none) (s x : Operand) (t E : TypeId)
    (ho : o.op = .call { callee := .builtin .append, args := #[s, x], argTypes := #[t, t] })
    (B : Nat) (i : TypeInfo) (z : Value) (by_ : Nat) (ht : P.underlying t = some (.slice E)) (hi : P.info? E = some i) (hz : i.zero = some z) (h1 : i.size = 1) (h8 : i.bytes = by_) (hzc : z.cells.size = 1) (hb16 : by_ ≤ 100)
    (n : Nat) (A : Option Addr) (c : Nat) (zs : List α) (g : Nat) (y : α) (hy1 : (f y).oneCell' = true) (hs : a.eval s = .slice A n c) (hx : a.eval x = .slice (some ⟨g, 0, none⟩) 1 1) (hn : zs.length = n)
    (hc : w.cell? ⟨g, 0, none⟩ = some (f y)) (hown : OwnG f E B w A c zs) (hlen : n < 4000000) (hB : B ≤ w.heap.size)
    (h : ∀ A' c' w', OwnG f E B w' A' c' (zs ++ [y]) → Below B w w' → wpList P ops Q rest (a.put o.dst (.slice A' (n + 1) c')) w') :
    wpList P ops Q (o :: rest) a w := by
  subst hn
  refine wpList_append_own _ hg s x t ho B E i z 1 by_ ht hi hz h1 h8 hzc (by decide) (.slice A zs.length c) zs.length (zs.map f) hs hown.2 ⟨g, 0, none⟩ 1 1 [f y] hx rfl ?_ ?_ (by unfold maxLen; omega) ?_ hB ?_
  · intro j u hj
    match j, hj with
    | 0, hj =>
      simp at hj; subst hj
      have : (⟨g, 0, none⟩ : Addr).add 0 = ⟨g, 0, none⟩ := by simp [Addr.add]
      rw [this]; exact hc
  · intro u hu; simp at hu; subst hu; exact hy1
  · have := Nat.mul_le_mul (show zs.length + 1 ≤ 4000001 by omega) hb16
    omega
  · intro v' w' ho' hgr hnil
    have hlt := hown.2.lt
    have hbel : Below B w w' := (Below.refl _ _).grown hgr hB (fun k hk => (hlt k hk).1)
    rcases ho'.2 with ⟨_, h0⟩ | ⟨g, cap, cur, hv, h2⟩
    · omega
    · subst hv
      refine h _ _ _ ⟨by simp; omega, ?_⟩ hbel
      simpa using ho'

/-- The loop of a cut. -/
def CutR (s : ByteArray) (w : World) (o f i : Value) (wr : World) : Prop :=
  ∃ (k g : Nat) (A : Option Addr) (c : Nat) (os : List ByteArray), o = .slice A os.length c ∧ f = .int .i64 g ∧ i = .int .i64 k ∧ g ≤ k ∧ os.length ≤ k ∧
    OwnS 9 w.heap.size wr A c os ∧ Below w.heap.size w wr ∧ ((k ≤ s.size ∧ Cut1 s.data.toList k g os) ∨ (k = s.size + 1 ∧ os = cutB s))

set_option maxHeartbeats 3200000 in
theorem l9Cut_any (s : ByteArray) (w : World) (hs : s.size ≤ 1048576) :
    Calls Tryd.prog 24 #[.string s, .int .u8 32] w fun e w' => RetG Value.string 9 w.heap.size w (cutB s) e w' := by
  obtain ⟨i0, hi, hz0, hz1, hz2⟩ := info_parts infoS
  have H0 : Hid (CutR s w (.slice (some ⟨w.heap.size, 0, none⟩) 0 0) (.int .i64 0) (.int .i64 0) (w.alloc (.cells #[] 9))) := hd
    ⟨0, 0, _, _, [], rfl, rfl, rfl, Nat.le_refl _, Nat.le_refl _, OwnG.lit0 Value.string 9 w, (Below.refl _ _).alloc (Nat.le_refl _) _, .inl ⟨Nat.zero_le _, Cut1.start _⟩⟩
  go_enter Tryd.func24, Tryd.ntmps24
  go_wp2
  go_loopw [5, 6, 7] (fun o f i wr => CutR s w o f i wr) (fun _ _ i _ => s.size + 1 - (intOf i).toNat)
  case atStart => exact H0.out
  case round =>
    clear H0
    obtain ⟨k, g, A, c, os, rfl, rfl, rfl, hgk, hok, own, bw, hc⟩ := hrel
    have Own := hd own
    have Bw := hd bw
    have hwr : w.heap.size ≤ wr.heap.size := bw.size
    clear own bw
    rcases hc with ⟨hk, hc⟩ | ⟨hk, hc⟩
    case inr =>
      have Hc := hd hc
      have hg : ¬ (k : Int) ≤ s.size := by omega
      have hl : ¬ (os.length : Int) < 0 := by omega
      clear hc
      go_wp2
      go_ret
      rw [Hc.out] at Own ⊢
      exact ⟨A, c, rfl, Own.out, Bw.out⟩
    case inl =>
      have Hc := hd hc
      clear hc
      have hg : (k : Int) ≤ s.size := by omega
      have g1 : (0 : Int) ≤ g := by omega
      have g2 : (g : Int) ≤ k := by omega
      have g3 : (0 : Int) ≤ k := by omega
      have Hx := hd (extract_piece s g k)
      have hxz : (s.extract g k).size ≤ 1048576 := by rw [ByteArray.size_extract]; omega
      by_cases hlt : k < s.size
      · have e1 : ((k : Int) == s.size) = false := by simp; omega
        have Hat := hd (str_at s k hlt)
        by_cases hb : s[k] = 32
        · have e2 : ((s[k].toNat : Int) == 32) = true := by rw [hb]; rfl
          have Hn : Hid (Cut1 s.data.toList (k + 1) (k + 1) (os ++ [s.extract g k])) := hd (Hc.out.blank (by rw [Hat.out, hb]) Hx.out)
          obtain ⟨x, HX⟩ : ∃ x, Hid (s.extract g k = x) := ⟨_, hd rfl⟩
          rw [HX.out] at Hn Hx hxz
          have HX2 := HX.out
          clear hb
          go_wp2_with (at_builtin; refine wpList_appH (f := Value.string) rfl _ _ 35 9 rfl w.heap.size i0 (.string ByteArray.empty) 16 Tryd.underlying35 hi hz0 hz1 hz2 rfl (by decide) os.length A c os wr.heap.size x rfl rfl rfl rfl (new_cell _ _ _) (Own.out.alloc _) (by omega) (by simp; omega) ?_; intro A5 c5 w7 own7 b7; have Own7 := hd own7; have Bw7 := hd ((Bw.out.alloc hwr (.cells #[.string x] 9)).trans b7); clear own7 b7)
          go_roundw
          case rel => exact ⟨k + 1, k + 1, A5, c5, os ++ [x], by simp, by go_num, by go_num, Nat.le_refl _, by simp; omega, Own7.out, Bw7.out, .inl ⟨by omega, Hn.out⟩⟩
          case measure => simp [intOf] <;> omega
        · have e2 : ((s[k].toNat : Int) == 32) = false := by
            simp only [beq_eq_false_iff_ne, ne_eq]
            intro h2
            exact hb (UInt8.toNat_inj.1 (by have : s[k].toNat = 32 := by omega
                                            rw [this]; rfl))
          have Hn : Hid (Cut1 s.data.toList (k + 1) g os) := hd (Hc.out.plain hgk Hat.out hb)
          clear hb
          go_wp2
          go_roundw
          case rel => exact ⟨k + 1, g, A, c, os, rfl, rfl, by go_num, by omega, by omega, Own.out, Bw.out, .inl ⟨by omega, Hn.out⟩⟩
          case measure => simp [intOf] <;> omega
      · have hke : s.size = k := by omega
        have e1 : ((k : Int) == s.size) = true := by simp; omega
        have Hn : Hid (os ++ [s.extract g k] = cutB s) := hd (Hc.out.done (by omega) Hx.out)
        obtain ⟨x, HX⟩ : ∃ x, Hid (s.extract g k = x) := ⟨_, hd rfl⟩
        rw [HX.out] at Hn Hx hxz
        have HX2 := HX.out
        have Hke := hd hke
        clear hke
        go_wp2_with (at_builtin; refine wpList_appH (f := Value.string) rfl _ _ 35 9 rfl w.heap.size i0 (.string ByteArray.empty) 16 Tryd.underlying35 hi hz0 hz1 hz2 rfl (by decide) os.length A c os wr.heap.size x rfl rfl rfl rfl (new_cell _ _ _) (Own.out.alloc _) (by omega) (by simp; omega) ?_; intro A5 c5 w7 own7 b7; have Own7 := hd own7; have Bw7 := hd ((Bw.out.alloc hwr (.cells #[.string x] 9)).trans b7); clear own7 b7)
        go_roundw
        case rel => exact ⟨k + 1, k + 1, A5, c5, os ++ [x], by simp, by go_num, by go_num, Nat.le_refl _, by simp; omega, Own7.out, Bw7.out, .inr ⟨by rw [Hke.out], Hn.out⟩⟩
        case measure => simp [intOf] <;> omega

end Go.Proofs.YtinhcdppdnmlgaaDoor
