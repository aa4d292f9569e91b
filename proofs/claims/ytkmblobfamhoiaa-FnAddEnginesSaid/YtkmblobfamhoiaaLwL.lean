/- Contracts of the laws' own functions deSkewed and deTurned; halves and the numbers that columns show. -/
import Derived.Test.YtkmblobfamhoiaaLwJ
import Derived.Test.YtkmblobfamhoiaaSpeY
namespace Go.Proofs.Ytkmblobfamhoiaa
open Go.RowKit
set_option maxRecDepth 4000

theorem deSkewed_r (A : Option Addr) (c n : Nat) (cs z : List ByteArray) (w : World) (hn : cs.length = n) (h : SS w A cs) (hs : Short cs) (hz : (turnF skewV cs).getD [] = z) :
    Calls Try.prog 36 #[.agg #[.slice A n c]] w fun e w' => RetE 9 w.heap.size w z e w' := by
  subst hn
  have C0 := hd (Cs.two w (.slice A cs.length c) (.slice none 0 0) 36 36)
  have Hh := hd (h.below C0.out.1)
  have Hs := hd hs
  have Hz := hd hz
  have hsz0 : ((w.alloc (.cells #[.slice A cs.length c] 36)).alloc (.cells #[.slice none 0 0] 36)).heap.size = w.heap.size + 2 := by simp
  clear h hs hz
  go_enter Try.func36, Try.ntmps36
  go_wp2_with fail
  refine (SkewEngine_any A c cs _ Hh.out Hs.out).mono ?_
  rintro e w1 ⟨A1, c1, rfl, own, b1⟩
  rw [Hz.out, hsz0] at own
  rw [Hz.out]
  have C1 := hd (C0.out.below b1)
  obtain ⟨⟨q1, f1, g1⟩, ⟨q2, f2, -⟩⟩ := C1.out.at2
  have Cp := hd (((C1.out.2 (w.heap.size + 1, .slice none 0 0) (by simp)).1.put (.slice A1 z.length c1)).alloc (.cells #[.slice A1 z.length c1] 36))
  have Own := hd ((own.keep_lo (grown_set w1 ⟨w.heap.size + 1, 0, none⟩ (.slice A1 z.length c1)) (fun r hr => by simp at hr; omega)).alloc (.cells #[.slice A1 z.length c1] 36))
  have Bf := hd ((C1.out.done (g := w.heap.size + 1) (by omega) (.slice A1 z.length c1)).alloc (by simp [World.setCell]; omega) (.cells #[.slice A1 z.length c1] 36))
  obtain ⟨q3, f3, -⟩ := Cp.out
  have hne : ¬ w.heap.size + 1 = w1.heap.size := by omega
  clear own b1 hsz0
  go_wp2
  exact bodyPost_ret (v := .agg #[.slice A1 z.length c1]) (by simp [results, Try.results36, q3, go_sem]) rfl (RetE.own (Own.out.low (by omega)) rfl Bf.out)

end Go.Proofs.Ytkmblobfamhoiaa
