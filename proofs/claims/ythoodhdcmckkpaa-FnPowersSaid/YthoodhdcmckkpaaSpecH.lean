/- Contract of the reference's product of polynomials. -/
import Derived.Test.YthoodhdcmckkpaaSpecG
import Derived.Test.YthoodhdcmckkpaaPolyC
namespace Go.Proofs.Ythoodhdcmckkpaa
open Go.RowKit

set_option maxHeartbeats 1600000 in
theorem sMulPolys_any (A A' : Option Addr) (c c' : Nat) (p q : List Int) (w : World) (h : SI w A p) (h' : SI w A' q) :
    Calls Try.prog 63 #[.slice A p.length c, .slice A' q.length c'] w fun e w' => RetO 3 w.heap.size w (mulP p q) e w' := by
  obtain ⟨i0, hi, hz0, hz1, hz2⟩ := info_parts infoI
  have hl1 := h.len
  have hl2 := h'.len
  have Hh := hd h
  have Hh' := hd h'
  clear h h'
  cases hv : validP p
  · have Hf : Hid (mulP p q = none) := hd (by simp [mulP, hv])
    go_enter Try.func63, Try.ntmps63
    go_wp2_with (go_at_call 76; refine (sPolyValid_any A c p _ Hh.out).mono ?_; rintro e w' ⟨rfl, rfl⟩)
    go_ret2
    exact RetO.lit Hf.out (Below.refl _ _)
  cases hv' : validP q
  · have Hf : Hid (mulP p q = none) := hd (by simp [mulP, hv'])
    go_enter Try.func63, Try.ntmps63
    go_wp2_with fail
    refine (sPolyValid_any A c p _ Hh.out).mono ?_
    rintro e w' ⟨rfl, rfl⟩
    go_wp2_with fail
    refine (sPolyValid_any A' c' q _ Hh'.out).mono ?_
    rintro e w' ⟨rfl, rfl⟩
    go_wp2
    go_ret2
    exact RetO.lit Hf.out (Below.refl _ _)
  obtain ⟨h1, h7, hx⟩ := validP_iff.1 hv
  obtain ⟨h1', h7', hx'⟩ := validP_iff.1 hv'
  by_cases hl : p.length + q.length - 1 ≤ 7
  · have Hf : Hid (mulP p q = chk (fd (tab (p.length + q.length - 1) fun n => val p n * val q n))) := hd (by simp [mulP, hv, hv', hl])
    have HB := hd (mul_bd' hv hv' hl)
    have Hv6 := hd (fun (i : Nat) (h : i ≤ 6) => val6 hv i h)
    have Hv6' := hd (fun (i : Nat) (h : i ≤ 6) => val6 hv' i h)
    have Htl := hd (tab_length (p.length + q.length - 1) fun n => val p n * val q n)
    obtain ⟨m, hm⟩ : ∃ m, m = p.length + q.length - 1 := ⟨_, rfl⟩
    rw [← hm] at Hf HB Htl
    have Hm := hd hm
    have Hx := hd hx
    have Hx' := hd hx'
    have hm7 : m ≤ 7 := by omega
    have hml : ¬ 7 < (p.length : Int) + q.length - 1 := by omega
    have hmi : (p.length : Int) + q.length - 1 = m := by omega
    have Hmi := hd hmi
    have Hbel0 := hd ((Below.refl w.heap.size w).alloc (Nat.le_refl _) (.cells #[] 3))
    have Hown0 := hd (OwnI.lit0 3 w)
    clear hm hx hx' hl hmi
    go_enter Try.func63, Try.ntmps63
    go_wp2_with fail
    refine (sPolyValid_any A c p _ Hh.out).mono ?_
    rintro e w' ⟨rfl, rfl⟩
    go_wp2_with fail
    refine (sPolyValid_any A' c' q _ Hh'.out).mono ?_
    rintro e w' ⟨rfl, rfl⟩
    go_wp2
    go_loopw [6, 7] (fun r i wr => ∃ (k : Nat) (A2 : Option Addr) (c2 : Nat), k ≤ m ∧ i = .int .i64 k ∧ r = .slice A2 k c2 ∧ OwnI 3 w.heap.size wr A2 c2 ((tab m fun n => val p n * val q n).take k) ∧ Below w.heap.size w wr)
      (fun _ i _ => m - (intOf i).toNat)
    case atStart => exact ⟨0, _, _, by omega, rfl, rfl, Hown0.out, Hbel0.out⟩
    case round =>
      obtain ⟨k, A2, c2, hk, rfl, rfl, hown, hbel⟩ := hrel
      have Hown := hd hown
      clear hown
      by_cases hlt : k < m
      · have hcond : (k : Int) < (p.length : Int) + q.length - 1 := by have := Hmi.out; omega
        have Hs := hd (Hh.out.below hbel)
        have Hs' := hd (Hh'.out.below hbel)
        have Hok := hd (ValOk.of h7 Hx.out (n := (k : Int)) (by omega) (by omega))
        have Hok' := hd (ValOk.of h7' Hx'.out (n := (k : Int)) (by omega) (by omega))
        have b1 := Hv6.out k (by omega)
        have b2 := Hv6'.out k (by omega)
        have b3 := mul_bd _ _ 100000000 100000000 (by decide) b1.1 b1.2 b2.1 b2.2
        have b4 : -10000000000000000 ≤ val p k * val q k := by omega
        have b5 : val p k * val q k ≤ 10000000000000000 := by omega
        clear b1 b2 b3
        have Htk : Hid (((tab m fun n => val p n * val q n).take k).length = k) := hd (by rw [List.length_take, tab_length]; omega)
        have HS := hd (tab_take_succ m (fun n => val p n * val q n) k hlt)
        go_wp2_with fail
        refine (l2Eval_any A c p k _ Hs.out h7 Hok.out (by omega) (by omega)).mono ?_
        rintro e w1 ⟨rfl, hb1⟩
        have Hb := hd (hbel.trans (hb1.mono hbel.size))
        have Ho := hd (Hown.out.below hb1)
        have Hs2 := hd (Hs'.out.below hb1)
        clear hb1
        go_wp2_with fail
        refine (l2Eval_any A' c' q k _ Hs2.out h7' Hok'.out (by omega) (by omega)).mono ?_
        rintro e w2 ⟨rfl, hb1⟩
        have Hb := hd (Hb.out.trans (hb1.mono Hb.out.size))
        have Ho := hd (Ho.out.below hb1)
        have hsz : w.heap.size ≤ w2.heap.size := Hb.out.size
        clear hb1
        go_wp2_with (at_builtin; refine wpList_app1 rfl _ _ 23 3 rfl w.heap.size i0 Try.underlying23 hi hz0 hz1 hz2 k A2 c2 _ w2.heap.size (val p k * val q k) rfl rfl Htk.out (new_cell _ _ _) (Ho.out.alloc _) (by omega) (by simp; omega) ?_; intro A3 c3 w3 hown3 hbel3 _)
        have Hown3 := hd hown3
        have Hbel3 := hd ((Hb.out.alloc hsz _).trans hbel3)
        clear hown3 hbel3
        go_wp2
        go_roundw
        case rel => exact ⟨k + 1, A3, c3, by omega, by go_num, rfl, by rw [HS.out]; exact Hown3.out, Hbel3.out⟩
        case measure => simp [intOf]; omega
      · obtain rfl : k = m := by omega
        have hcond : ¬ (k : Int) < (p.length : Int) + q.length - 1 := by have := Hmi.out; omega
        have Ho : Hid (OwnI 3 w.heap.size wr A2 c2 (tab k fun n => val p n * val q n)) := hd (by
          have := Hown.out
          rwa [List.take_of_length_le (by rw [tab_length]; omega)] at this)
        go_wp2_with fail
        refine (l2Result_n _ _ _ (tab k fun n => val p n * val q n) _ Htl.out Ho.out.si (by rw [Htl.out]; omega) HB.out).mono ?_
        rintro e w2 ⟨A4, c4, rfl, own4, bel4⟩
        go_wp2
        go_ret2
        rw [Hf.out]
        exact ⟨A4, c4, rfl, own4.low hbel.size, hbel.trans (bel4.mono hbel.size)⟩
  · have Hf : Hid (mulP p q = none) := hd (by simp [mulP, hl])
    have hml : 7 < (p.length : Int) + q.length - 1 := by omega
    clear hx hx' hl
    go_enter Try.func63, Try.ntmps63
    go_wp2_with fail
    refine (sPolyValid_any A c p _ Hh.out).mono ?_
    rintro e w' ⟨rfl, rfl⟩
    go_wp2_with fail
    refine (sPolyValid_any A' c' q _ Hh'.out).mono ?_
    rintro e w' ⟨rfl, rfl⟩
    go_wp2
    go_ret2
    exact RetO.lit Hf.out (Below.refl _ _)

end Go.Proofs.Ythoodhdcmckkpaa
