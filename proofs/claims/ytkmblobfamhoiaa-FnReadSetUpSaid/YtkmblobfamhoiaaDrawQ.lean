/- The contract of the draw of an engine that is read. -/
import Derived.Test.YtkmblobfamhoiaaGrI
import Derived.Test.YtkmblobfamhoiaaEngM
namespace Go.Proofs.Ytkmblobfamhoiaa
open Go.RowKit
set_option maxRecDepth 4000

theorem setF_small {p : List Int} {n N : Int} {z : List ByteArray} (h : (setF p n N).getD [] = z) : z.length ≤ 8 ∧ Sizes z 200 := by
  subst h
  cases hs : shiftP p n with
  | none => rw [setF_none hs]; exact ⟨by simp, fun s hs => by simp at hs⟩
  | some q =>
    rw [setF_some hs]
    obtain ⟨-, hvq, -, -, -, -⟩ := shiftP_some hs
    obtain ⟨hl1, hl7, -⟩ := validP_iff.1 hvq
    unfold setE
    split
    · rename_i hc
      simp only [Bool.and_eq_true, decide_eq_true_eq] at hc
      refine ⟨by rw [Option.getD_some, eng_length]; omega, fun s hs => ?_⟩
      obtain ⟨x, _, rfl⟩ := List.mem_map.1 hs
      rw [showC_size]
      omega
    · exact ⟨by simp, fun s hs => by simp at hs⟩

set_option maxHeartbeats 3200000 in
theorem DrawReadEngine_any (A : Option Addr) (c : Nat) (zs : List Int) (w : World) (h : SR w A (zs.map (Value.int .u8))) (hcap : zs.length ≤ c) (hx : ∀ x ∈ zs, 0 ≤ x ∧ x ≤ 255) :
    Calls Try.prog 64 #[.slice A zs.length c] w fun e w' => DrewE w e w' := by
  have Ca := hd (Cl.new w (.slice none 0 0) 36)
  have B0 := hd ((Below.refl w.heap.size w).alloc (Nat.le_refl _) (.cells #[.slice none 0 0] 36))
  have H := hd (h.below B0.out)
  have Hx := hd hx
  have hsz0 : (w.alloc (.cells #[.slice none 0 0] 36)).heap.size = w.heap.size + 1 := by simp
  clear h hx
  go_enter Try.func64, Try.ntmps64
  go_wp2_with fail
  refine (l9Open_any A c zs _ H.out hcap Hx.out).mono ?_
  rintro e w1 ⟨g, rfl, hg, rd, b1⟩
  rw [hsz0] at hg
  have Rd := hd rd
  have hgw1 : g < w1.heap.size := rd.lt
  have Ca1 := hd (Ca.out.below b1)
  have B1 := hd (B0.out.trans (b1.mono (by rw [hsz0]; omega)))
  have hsz1 : w.heap.size + 1 ≤ w1.heap.size := by have := b1.size; rw [hsz0] at this; exact this
  clear rd b1 hsz0
  go_wp2_with fail
  refine (l3Open_any g 0 _ Rd.out (by omega)).mono ?_
  rintro e w2 ⟨A2, c2, ys, rfl, hy, own2, rd2, gr⟩
  have Ca2 := hd ((Ca1.out.other gr (by omega)).alloc (.cells #[.slice A2 ys.length c2] 36))
  have hgw := rd2.lt
  have Ce := hd (Cl.new w2 (.slice A2 ys.length c2) 36)
  have hsz2 : w1.heap.size ≤ w2.heap.size := gr.size
  have Bn := hd ((Below.refl w2.heap.size w2).alloc (Nat.le_refl _) (.cells #[.slice A2 ys.length c2] 36))
  have Rd2 := hd (rd2.below Bn.out hgw)
  have Own2 := hd (own2.alloc (.cells #[.slice A2 ys.length c2] 36))
  have B2 := hd ((grown_new B1.out (show w.heap.size ≤ g by omega) gr).alloc (by omega) (.cells #[.slice A2 ys.length c2] 36))
  have Hy := hd hy
  have hszn : (w2.alloc (.cells #[.slice A2 ys.length c2] 36)).heap.size = w2.heap.size + 1 := by simp
  clear own2 rd2 gr hy
  go_wp2_with fail
  refine (pick_any g _ 2 _ Rd2.out (by omega)).mono ?_
  rintro e w3 ⟨v, rfl, hv, r3, g3⟩
  have hsz3 : w2.heap.size + 1 ≤ w3.heap.size := by have := g3.size; rw [hszn] at this; exact this
  have Ca3 := hd (Ca2.out.other g3 (by omega))
  have Ce3 := hd (Ce.out.other g3 (by omega))
  have Own3 := hd (Own2.out.keep_lo g3 (fun r hr => by simp at hr; omega))
  have B3 := hd (B2.out.grown g3 (by rw [hszn]; omega) (fun r hr => by simp at hr; omega))
  have Rd3 := hd r3
  have hg3 := r3.lt
  clear hv r3 g3 hszn
  obtain ⟨c1, f1, -⟩ := Ca3.out
  obtain ⟨q1, q2, -⟩ := Ce3.out
  by_cases h0 : v = 0
  · subst h0
    go_wp2_with fail
    refine (l2Some_any g _ _ Rd3.out (by omega)).mono ?_
    rintro e w4 ⟨A4, c4, p, rfl, hp, own4, hcap4, r4, g4⟩
    clear c1 f1 q1 q2
    have hsz4 : w3.heap.size ≤ w4.heap.size := g4.size
    have Ca4 := hd (Ca3.out.other g4 (by omega))
    have Ce4 := hd (Ce3.out.other g4 (by omega))
    have Own4 := hd (Own3.out.keep_lo g4 (fun r hr => by simp at hr; omega))
    have B4 := hd (B3.out.grown g4 (by omega) (fun r hr => by simp at hr; omega))
    have Rd4 := hd r4
    have P4 : Hid (OwnG (Value.int .i64) 3 w3.heap.size w4 A4 c4 p) := hd own4
    clear hp own4 r4 g4
    obtain ⟨c1, f1, -⟩ := Ca4.out
    obtain ⟨q1, q2, -⟩ := Ce4.out
    go_wp2_with fail
    refine (pick_any g _ 20 _ Rd4.out (by omega)).mono ?_
    rintro e w5 ⟨u, rfl, hu, r5, g5⟩
    clear c1 f1 q1 q2
    obtain ⟨hu0, hu1⟩ := hu
    have hu2 := hu1 (by omega)
    have hsz5 : w4.heap.size ≤ w5.heap.size := g5.size
    have Ca5 := hd (Ca4.out.other g5 (by omega))
    have Ce5 := hd (Ce4.out.other g5 (by omega))
    have Own5 := hd (Own4.out.keep_lo g5 (fun r hr => by simp at hr; omega))
    have B5 := hd (B4.out.grown g5 (by omega) (fun r hr => by simp at hr; omega))
    have P5 := hd (P4.out.keep_lo g5 (fun r hr => by simp at hr; omega))
    have Rd5 := hd r5
    have e5 : IntKind.i64.wrap (u - 5) = u - 5 := IntWalk.i64_in _ (by omega)
    clear hu1 r5 g5
    obtain ⟨c1, f1, -⟩ := Ca5.out
    obtain ⟨q1, q2, -⟩ := Ce5.out
    go_wp2_with fail
    refine (pick_any g _ 5 _ Rd5.out (by omega)).mono ?_
    rintro e w6 ⟨t, rfl, ht, r6, g6⟩
    clear c1 f1 q1 q2
    obtain ⟨ht0, ht1⟩ := ht
    have ht2 := ht1 (by omega)
    have hsz6 : w5.heap.size ≤ w6.heap.size := g6.size
    have Ca6 := hd (Ca5.out.other g6 (by omega))
    have Ce6 := hd (Ce5.out.other g6 (by omega))
    have Own6 := hd (Own5.out.keep_lo g6 (fun r hr => by simp at hr; omega))
    have B6 := hd (B5.out.grown g6 (by omega) (fun r hr => by simp at hr; omega))
    have P6 := hd (P5.out.keep_lo g6 (fun r hr => by simp at hr; omega))
    have e6 : IntKind.i64.wrap (6 + t) = 6 + t := IntWalk.i64_in _ (by omega)
    clear ht1 r6 g6
    obtain ⟨c1, f1, -⟩ := Ca6.out
    obtain ⟨q1, q2, -⟩ := Ce6.out
    obtain ⟨z, Hz⟩ : ∃ z, Hid ((setF p (u - 5) (6 + t)).getD [] = z) := ⟨_, hd rfl⟩
    obtain ⟨ok, Hok⟩ : ∃ ok, Hid ((setF p (u - 5) (6 + t)).isSome = ok) := ⟨_, hd rfl⟩
    have Hzs := hd (setF_small Hz.out)
    go_wp2_with fail
    refine (sSetUp_z (u - 5) (6 + t) A4 c4 _ p z ok _ rfl P6.out.sg hcap4 ⟨Hz.out, Hok.out⟩).mono ?_
    rintro e w7 ⟨A7, c7, rfl, own7, b7⟩
    clear c1 f1 q1 q2
    have hsz7 : w6.heap.size ≤ w7.heap.size := b7.size
    have Ca7 := hd ((Ca6.out.below b7).alloc (.cells #[.slice A7 z.length c7] 36))
    have Ce7 := hd ((Ce6.out.below b7).alloc (.cells #[.slice A7 z.length c7] 36))
    have Own7 := hd ((Own6.out.below b7).alloc (.cells #[.slice A7 z.length c7] 36))
    have B7 := hd ((B6.out.trans (b7.mono (by omega))).alloc (by omega) (.cells #[.slice A7 z.length c7] 36))
    have LZ := hd (own7.alloc (.cells #[.slice A7 z.length c7] 36))
    have Cz := hd (Cl.new w7 (.slice A7 z.length c7) 36)
    clear own7 b7
    have hne1 : ¬ w.heap.size = w7.heap.size := by omega
    have hne2 : ¬ w2.heap.size = w7.heap.size := by omega
    obtain ⟨c1, f1, -⟩ := Ca7.out
    obtain ⟨q1, q2, -⟩ := Ce7.out
    obtain ⟨z1, z2, -⟩ := Cz.out
    cases ok
    · have Hf : Hid (DrewE w (.returned (.agg #[.slice A2 ys.length c2])) ((w7.alloc (.cells #[.slice A7 z.length c7] 36)).setCell ⟨w.heap.size, 0, none⟩ (.slice A2 ys.length c2))) := hd
        ⟨A2, c2, ys, rfl, Hy.out, (Own7.out.keep_lo (grown_set _ ⟨w.heap.size, 0, none⟩ (.slice A2 ys.length c2)) (fun r hr => by simp at hr; omega)).low (by omega), B7.out.setCell (p := ⟨w.heap.size, 0, none⟩) (Nat.le_refl _) _⟩
      go_wp2
      exact bodyPost_ret (v := .agg #[.slice A2 ys.length c2]) (by simp [results, Try.results64, c1, go_sem]) rfl Hf.out
    · have Hf : Hid (DrewE w (.returned (.agg #[.slice A7 z.length c7])) ((w7.alloc (.cells #[.slice A7 z.length c7] 36)).setCell ⟨w.heap.size, 0, none⟩ (.slice A7 z.length c7))) := hd
        ⟨A7, c7, z, rfl, Hzs.out, (LZ.out.keep_lo (grown_set _ ⟨w.heap.size, 0, none⟩ (.slice A7 z.length c7)) (fun r hr => by simp at hr; omega)).low (by omega), B7.out.setCell (p := ⟨w.heap.size, 0, none⟩) (Nat.le_refl _) _⟩
      go_wp2
      exact bodyPost_ret (v := .agg #[.slice A7 z.length c7]) (by simp [results, Try.results64, c1, go_sem]) rfl Hf.out
  · have e0 : (v == 0) = false := by simp [h0]
    clear h0
    have Hf : Hid (DrewE w (.returned (.agg #[.slice A2 ys.length c2])) (w3.setCell ⟨w.heap.size, 0, none⟩ (.slice A2 ys.length c2))) := hd
      ⟨A2, c2, ys, rfl, Hy.out, (Own3.out.keep_lo (grown_set _ ⟨w.heap.size, 0, none⟩ (.slice A2 ys.length c2)) (fun r hr => by simp at hr; omega)).low (by omega), B3.out.setCell (p := ⟨w.heap.size, 0, none⟩) (Nat.le_refl _) _⟩
    go_wp2
    exact bodyPost_ret (v := .agg #[.slice A2 ys.length c2]) (by simp [results, Try.results64, c1, go_sem]) rfl Hf.out

end Go.Proofs.Ytkmblobfamhoiaa
