/- The draws of the law on the text of a polynomial. -/
import Derived.Test.YtinhcdppdnmlgaaDoorTxB
import Derived.Test.YtinhcdppdnmlgaaDoorGrH
import Derived.Test.YtinhcdppdnmlgaaDoorGrI
import Derived.Deep.RegionLaw
namespace Go.Proofs.YtinhcdppdnmlgaaDoor
open Go.RowKit
set_option maxRecDepth 4000

theorem DrawFormatPoly_any (A : Option Addr) (c : Nat) (zs : List Int) (w : World) (h : SR w A (zs.map (Value.int .u8))) (hcap : zs.length ≤ c) (hx : ∀ x ∈ zs, 0 ≤ x ∧ x ≤ 255) :
    Calls Tryd.prog 12 #[.slice A zs.length c] w fun e w' => Drew 3 w e w' := by
  have H := hd h
  have Hx := hd hx
  clear h hx
  go_enter Tryd.func12, Tryd.ntmps12
  go_wp2_with fail
  refine (l9Open_any A c zs _ H.out hcap Hx.out).mono ?_
  rintro e w1 ⟨g, rfl, hg, rd, b1⟩
  go_wp2_with fail
  refine (l2Open_any g 0 _ rd (by omega)).mono ?_
  rintro e w2 ⟨A2, c2, ys, rfl, hy, own, hcap2, rd2, gr⟩
  have Hf : Hid (Drew 3 w (.returned (.slice A2 ys.length c2)) w2) := hd ⟨A2, c2, ys, rfl, hy, own.low b1.size, hcap2, grown_new b1 hg gr⟩
  clear own rd2 gr
  go_wp2
  go_ret
  exact Hf.out

def ofStrs : List ByteArray := [⟨#[]⟩, ⟨#[48]⟩, ⟨#[32]⟩, ⟨#[45]⟩, ⟨#[120]⟩, ⟨#[57, 57, 57, 57, 57]⟩]
theorem ofStrs_size {x : ByteArray} (h : x ∈ ofStrs) : x.size ≤ 5 := by
  unfold ofStrs at h
  simp only [List.mem_cons, List.not_mem_nil, or_false] at h
  rcases h with rfl | rfl | rfl | rfl | rfl | rfl <;> decide
/-- A text is drawn. -/
def DrewT (w : World) (e : Ending) (w' : World) : Prop := ∃ s : ByteArray, e = .returned (.string s) ∧ s.size ≤ 1000 ∧ Below w.heap.size w w'
theorem numsB_pos {p : List Int} (h : 1 ≤ p.length) : 1 ≤ (numsB p).size := by
  cases p with
  | nil => simp at h
  | cons x r =>
    rw [numsB, joinB, txt_size, List.map_cons, List.map_cons, Lib.join_cons, List.length_append]
    have h2 : 1 ≤ (numB x).data.toList.length := by
      rw [show (numB x).data.toList = Lib.itoa x from data_txt _]
      unfold Lib.itoa
      split
      · simp
      · have := Lib.nDigits_pos x.toNat
        rw [Lib.decDigits_length]; exact this
    omega

set_option maxHeartbeats 3200000 in
theorem DrawParsePoly_any (A : Option Addr) (c : Nat) (zs : List Int) (w : World) (h : SR w A (zs.map (Value.int .u8))) (hcap : zs.length ≤ c) (hx : ∀ x ∈ zs, 0 ≤ x ∧ x ≤ 255) :
    Calls Tryd.prog 17 #[.slice A zs.length c] w fun e w' => DrewT w e w' := by
  have H := hd h
  have Hx := hd hx
  clear h hx
  go_enter Tryd.func17, Tryd.ntmps17
  go_wp2_with fail
  refine (l9Open_any A c zs _ H.out hcap Hx.out).mono ?_
  rintro e w1 ⟨g, rfl, hg, rd, b1⟩
  go_wp2_with fail
  refine (l2Some_any g 0 _ rd (by omega)).mono ?_
  rintro e w2 ⟨A2, c2, ys, rfl, ⟨hy1, hy6, hyb⟩, own, hcap2, rd2, gr⟩
  have k2 := grown_new b1 hg gr
  have HT := hd (l2Text_any A2 c2 ys.length ys w2 rfl own.si (by omega) (fun x hx => by have := hyb x hx; omega))
  have hts : (numsB ys).size ≤ 132 := by
    have := numsB_size (p := ys) (fun x hx => by have := hyb x hx; omega)
    omega
  have htp := numsB_pos hy1
  have Rd2 := hd rd2
  have hg2 := rd2.lt
  obtain ⟨t, Ht⟩ : ∃ t, Hid (numsB ys = t) := ⟨_, hd rfl⟩
  rw [Ht.out] at HT hts htp
  clear own rd2 gr hyb rd b1
  go_wp2_with fail
  refine HT.out.mono ?_
  rintro e w3 ⟨rfl, b3⟩
  have k3 := k2.trans (b3.mono k2.size)
  have Rd3 := hd (Rd2.out.below b3 hg2)
  clear b3
  go_wp2_with fail
  refine (pick_any g _ 2 w3 Rd3.out (by omega)).mono ?_
  rintro e w4 ⟨v, rfl, hv, r4, g4⟩
  have k4 := k3.grown g4 k3.size (fun r hr => by simp at hr; omega)
  have Rd4 := hd r4
  clear r4 g4 hv
  by_cases h0 : v = 0
  · subst h0
    have Hf : Hid (DrewT w (.returned (.string t)) w4) := hd ⟨t, rfl, by omega, k4⟩
    go_wp2
    go_ret
    exact Hf.out
  · have e0 : (v == 0) = false := by simp [h0]
    clear h0
    go_wp2_with fail
    refine (pick_any g _ t.size w4 Rd4.out (by omega)).mono ?_
    rintro e w5 ⟨k, rfl, hk, r5, g5⟩
    obtain ⟨hk0, hk1⟩ := hk
    have hk2 := hk1 (by omega)
    obtain ⟨k, rfl⟩ := Int.eq_ofNat_of_zero_le hk0
    have k5 := k4.grown g5 k4.size (fun r hr => by simp at hr; omega)
    have hg5 := r5.lt
    have Rd5 := hd r5
    have hw5 : w.heap.size ≤ w5.heap.size := k5.size
    clear r5 g5 hk1
    have Hlit : Hid (OwnS 9 w5.heap.size (w5.drew.alloc (.cells #[.string ⟨#[]⟩, .string ⟨#[48]⟩, .string ⟨#[32]⟩, .string ⟨#[45]⟩, .string ⟨#[120]⟩, .string ⟨#[57, 57, 57, 57, 57]⟩] 9)) (some ⟨w5.heap.size, 0, none⟩) 6 ofStrs) := hd
      ⟨by simp [ofStrs], World.ownsRow_lit w5.drew #[.string ⟨#[]⟩, .string ⟨#[48]⟩, .string ⟨#[32]⟩, .string ⟨#[45]⟩, .string ⟨#[120]⟩, .string ⟨#[57, 57, 57, 57, 57]⟩] 6 (Nat.le_refl _) (by simp [maxLen]) rfl⟩
    have Bl := hd ((Below.refl w5.heap.size w5).drew.alloc (Nat.le_refl _) (.cells #[.string ⟨#[]⟩, .string ⟨#[48]⟩, .string ⟨#[32]⟩, .string ⟨#[45]⟩, .string ⟨#[120]⟩, .string ⟨#[57, 57, 57, 57, 57]⟩] 9))
    have Ra := hd (Rd5.out.below Bl.out hg5)
    have K6 := hd (k5.trans (Bl.out.mono hw5))
    have Hbl : Hid (0 < ofStrs.length) := hd (by decide)
    have g1 : (0 : Int) ≤ k := by omega
    have g2 : (k : Int) ≤ t.size := by omega
    have g3 : k ≤ t.size := by omega
    have hza : (t.extract 0 k).size ≤ 132 := by rw [ByteArray.size_extract]; omega
    clear k5
    go_wp2
    go_region_law (first | (go_simp; go_at_call 36; refine (of_any g _ _ 6 ofStrs _ Ra.out (by omega) Hlit.out.sg (Hlit.out.off hg5) Hbl.out).mono ?_; rintro e w6 ⟨x, rfl, hx, r6, g6⟩; have hxs := ofStrs_size hx; have q1 : ¬ 9223372036854775807 < k + x.size := (by omega); have K7 := hd (K6.out.grown g6 K6.out.size (fun r hr => by simp at hr; omega)); have Rd6 := hd r6; clear hx r6 g6) | (go_simp; go_at_call 35; refine (pick_any g _ 2 w6 Rd6.out (by omega)).mono ?_; rintro e w7 ⟨p, rfl, hp, r7, g7⟩; obtain ⟨hp0, hp1⟩ := hp; have hp2 := hp1 (by omega); have K8 := hd (K7.out.grown g7 K7.out.size (fun r hr => by simp at hr; omega)); obtain ⟨p, rfl⟩ := Int.eq_ofNat_of_zero_le hp0; have f1 : IntKind.i64.wrap ((k : Int) + p) = (k : Int) + p := IntWalk.i64_in _ (by omega); have f2 : (0 : Int) ≤ (k : Int) + p := (by omega); have f3 : (k : Int) + p ≤ t.size := (by omega); have f4 : ((k : Int) + p).toNat = k + p := (by omega); have hzb : (t.extract (k + p) t.size).size ≤ 132 := (by rw [ByteArray.size_extract]; omega); have q2 : ¬ 9223372036854775807 < k + x.size + (t.size - (k + p)) := (by omega); clear hp1 r7 g7))
    all_goals
      have Hf : Hid (DrewT w (.returned (.string (t.extract 0 k ++ x ++ t.extract (k + p) t.size))) w7) := hd ⟨_, rfl, by rw [ByteArray.size_append, ByteArray.size_append]; omega, K8.out⟩
      go_wp2
      go_ret
      exact Hf.out

end Go.Proofs.YtinhcdppdnmlgaaDoor
