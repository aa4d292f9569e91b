/- Helpers of the laws over code: cells of lists at a known address, the width for a number, contracts with their results written out. -/
import Derived.Test.YtkmblobfamhoiaaLwN
import Derived.Test.YtkmblobfamhoiaaLawC
namespace Go.Proofs.Ytkmblobfamhoiaa
open Go.RowKit
set_option maxRecDepth 4000

theorem SG.cellK {α : Type} {f : α → Value} {w : World} {b off : Nat} {xs : List α} {k : Nat} {x : α} (h : SG f w (some ⟨b, off, none⟩) xs) (hk : xs[k]? = some x) :
    w.cell? ⟨b, off + k, none⟩ = some (f x) ∧ b < w.heap.size := by
  obtain ⟨b', off', e, hb, hc⟩ := h.2 k (f x) (by simp [hk])
  simp only [Option.some.injEq, Addr.mk.injEq, and_true] at e
  obtain ⟨rfl, rfl⟩ := e
  exact ⟨hc, hb⟩

theorem cell_alloc {w : World} {p : Addr} {v : Value} (h : w.cell? p = some v) (hp : p.block < w.heap.size) (o : Obj) : (w.alloc o).cell? p = some v :=
  (((Below.refl w.heap.size w).alloc (Nat.le_refl _) o).cell hp).trans h

theorem cl_put' {w : World} {g : Nat} {v : Value} (h : Cl w g v) (x : Value) : Cl (w.setCell ⟨g, 0, none⟩ x) g x :=
  ⟨World.cell?_setCell_same' _ _ _ (by rw [h.1]; rfl), by rw [World.frozen?_setCell]; exact h.2.1, Nat.lt_of_lt_of_le h.2.2 (grown_set w ⟨g, 0, none⟩ x).size⟩

theorem cell_far' {w : World} {g : Nat} {p : Addr} {v x : Value} (h : w.cell? p = some x) (hne : p.block < g) : (w.setCell ⟨g, 0, none⟩ v).cell? p = some x := by
  rw [World.cell?_setCell_other (h := fun e => by rw [← e] at hne; exact Nat.lt_irrefl _ hne)]; exact h

theorem ShiftPoly_z (N : Int) (A : Option Addr) (c n : Nat) (p q : List Int) (ok : Bool) (w : World) (hn : p.length = n) (h : SG (Value.int .i64) w A p) (hc : n ≤ c) (hz : (shiftP p N).getD [] = q ∧ (shiftP p N).isSome = ok) :
    Calls Try.prog 51 #[.slice A n c, .int .i64 N] w fun e w' => RetNB 3 w.heap.size w q ok e w' := by
  obtain ⟨rfl, rfl⟩ := hz
  subst hn
  exact (ShiftPoly_any A c p N w h hc).mono fun _ _ h => RetNB.of h

theorem deAt_v (NI : Int) (A : Option Addr) (c n : Nat) (p : List Int) (N v : Int) (w : World) (hN : NI = N) (hn : p.length = n) (h : SG (Value.int .i64) w A p) (hv : evl p N = v) :
    Calls Try.prog 53 #[.slice A n c, .int .i64 NI] w fun e w' => e = .returned (.int .i64 v) ∧ Below w.heap.size w w' := by
  subst hN hn hv
  exact (deAt_any A c p NI w h).mono fun e w' ⟨he, hw⟩ => ⟨he, by subst hw; exact Below.refl _ _⟩

theorem deInts_v (n m : Nat) (A A' : Option Addr) (c c' : Nat) (xs : List Int) (w : World) (hn : xs.length = n) (hm : xs.length = m) (h : SG (Value.int .i64) w A xs) (h' : SG (Value.int .i64) w A' xs) :
    Calls Try.prog 19 #[.slice A n c, .slice A' m c'] w fun e w' => e = .returned (.bool true) ∧ Below w.heap.size w w' := by
  subst hn hm
  exact (deInts_any A A' c c' xs xs w h h').mono fun e w' ⟨he, hw⟩ => ⟨by rw [he]; simp, hw⟩

def WforR (v : Int) (i : Value) : Prop := ∃ k : Nat, 1 ≤ k ∧ k ≤ 13 ∧ i = .int .i64 k ∧ wforN v (13 - k) k = wfor v

theorem wforN_yes {v : Int} {n k : Nat} (h : fitsB v k = true) : wforN v (n + 1) k = k := by rw [wforN, h]; rfl
theorem wforN_no {v : Int} {n k : Nat} (h : fitsB v k = false) : wforN v (n + 1) k = wforN v n (k + 1) := by rw [wforN, h]; rfl

theorem WidthFor_r (v : Int) (u : Nat) (w : World) (hu : wfor v = u) :
    Calls Try.prog 61 #[.int .i64 v] w fun e w' => e = .returned (.int .i64 u) ∧ Below w.heap.size w w' := by
  subst hu
  go_enter Try.func61, Try.ntmps61
  go_wp2
  go_loopw [3] (fun i wr => WforR v i ∧ Below w.heap.size w wr) (fun i _ => 13 - (intOf i).toNat)
  case atStart => exact ⟨⟨1, by omega, by omega, rfl, rfl⟩, Below.refl _ _⟩
  case round =>
    obtain ⟨⟨k, hk1, hk, rfl, hf⟩, bw⟩ := hrel
    have Hf := hd hf
    have Bw := hd bw
    clear hf bw
    by_cases hlt : k ≤ 12
    · have e1 : (k : Int) ≤ 12 := by omega
      obtain ⟨n, Hn⟩ : ∃ n, Hid (13 - k = n + 1) := ⟨12 - k, hd (by omega)⟩
      cases hb : fitsB v k
      · have Hc : Hid (colO v k = none) := hd (colO_not hb)
        have Hx : Hid (wforN v n (k + 1) = wfor v) := hd (by have := Hf.out; rw [Hn.out, wforN_no hb] at this; exact this)
        clear hb
        go_wp2_with fail
        refine (ColumnOf_any v k _).mono ?_
        rintro e w' h
        rw [Hc.out] at h
        obtain ⟨rfl, b2⟩ := h
        have Bw := hd (Bw.out.trans (b2.mono Bw.out.size))
        clear b2
        go_wp2
        go_roundw
        case rel => exact ⟨⟨k + 1, by omega, by omega, by go_num, by have := Hx.out; have h2 := Hn.out; rwa [show 13 - (k + 1) = n by omega]⟩, Bw.out⟩
        case measure => simp [intOf]; omega
      · have Hc : Hid (colO v k = some (showC k v)) := hd (colO_yes hk1 hlt hb)
        have Hx : Hid (wfor v = k) := hd (by have := Hf.out; rw [Hn.out, wforN_yes hb] at this; exact this.symm)
        clear hb
        go_wp2_with fail
        refine (ColumnOf_any v k _).mono ?_
        rintro e w' h
        rw [Hc.out] at h
        obtain ⟨rfl, b2⟩ := h
        have Bw := hd (Bw.out.trans (b2.mono Bw.out.size))
        clear b2
        go_wp2
        go_ret
        exact ⟨ret_int (by rw [Hx.out]), Bw.out⟩
    · have e1 : ¬ (k : Int) ≤ 12 := by omega
      have Hx : Hid (wfor v = 0) := hd (by have := Hf.out; rw [show 13 - k = 0 by omega] at this; exact this.symm)
      go_wp2
      go_ret
      exact ⟨ret_int (by rw [Hx.out]; rfl), Bw.out⟩

end Go.Proofs.Ytkmblobfamhoiaa
