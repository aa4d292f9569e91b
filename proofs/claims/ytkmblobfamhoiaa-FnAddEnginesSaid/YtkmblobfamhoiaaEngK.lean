/- The contract of the reference's AddEngines, for whatever comes in. -/
import Derived.Test.YtkmblobfamhoiaaEngG
import Derived.Deep.RegionHeld3
namespace Go.Proofs.Ytkmblobfamhoiaa
open Go.RowKit
set_option maxRecDepth 4000

theorem Cs.old {w w1 : World} {l : List (Nat × Value)} (h : Cs w w1 l) {p : Addr} {v : Value} (hp : p.block < w.heap.size) (hc : w.cell? p = some v) : w1.cell? p = some v := (h.1.cell hp).trans hc

set_option maxHeartbeats 8000000 in
theorem sAddEngines_any (A A' : Option Addr) (c c' n m : Nat) (cs ds : List ByteArray) (w : World) (hn : cs.length = n) (hm : ds.length = m) (h : SS w A cs) (h' : SS w A' ds) (hs : Short cs) (hs' : Short ds) :
    Calls Try.prog 33 #[.agg #[.slice A n c], .agg #[.slice A' m c']] w fun e w' => RetEO 9 w.heap.size w (addF cs ds) e w' := by
  have Hh := hd h
  have Hh' := hd h'
  have Hs := hd hs
  have Hs' := hd hs'
  have Hn := hd hn
  have Hm := hd hm
  have C0 := hd (Cs.three w (.slice A n c) (.slice A' m c') (.slice none 0 0) 36 36 36)
  clear h h' hs hs' hn hm
  cases hv : engV cs
  · have Hf : Hid (addF cs ds = none) := hd (addF_none (by simp [hv]))
    have Hv := hd hv
    clear hv
    go_enter Try.func33, Try.ntmps33
    go_wp2
    refine wp_region_any (by kernel_rfl) ?_
    change wpAny _ _ _ _ _ _ _ (World.drew _)
    obtain ⟨⟨c1, f1, -⟩, ⟨c2, f2, -⟩, ⟨c3, f3, -⟩⟩ := C0.out.at3
    refine wpAny_ready (rs := [0]) (by kernel_rfl) (by simp) ?_
    refine AllReady.cons rfl (fun K hK => ?_) AllReady.nil
    go_simp
    refine hK _ _ ?_; clear hK K
    clear c1 f1 c2 f2 c3 f3
    refine wpAny_ready (rs := [1]) (by kernel_rfl) (by simp) ?_
    refine AllReady.cons rfl (fun K hK => ?_) AllReady.nil
    go_simp
    go_at_call 89
    refine (sEngineValid_b _ A c cs false _ Hn.out (Hh.out.below C0.out.drew.1) Hs.out Hv.out).mono ?_
    rintro e w1 ⟨rfl, b1⟩
    have C1 := hd (C0.out.drew.below b1)
    obtain ⟨⟨c1, f1, -⟩, ⟨c2, f2, -⟩, ⟨c3, f3, -⟩⟩ := C1.out.at3
    clear b1
    try go_simp
    refine hK _ _ ?_; clear hK K
    refine wpAny_take (i := 2) (v := .bool true) rfl (by kernel_rfl) (by kernel_rfl) (by kernel_rfl) (fun _ _ _ h => h) (Or.inl ⟨by kernel_rfl, by intro w; go_simp⟩) ?_
    refine wpAny_take (i := 3) (v := .bool true) rfl (by kernel_rfl) (by kernel_rfl) (by kernel_rfl) (fun _ _ _ h => h) (Or.inl ⟨by kernel_rfl, by intro w; go_simp⟩) ?_
    refine wpAny_take (i := 4) (v := undef) rfl (by kernel_rfl) (by kernel_rfl) (by kernel_rfl) (fun _ _ _ h => h) (Or.inr ⟨by kernel_rfl, rfl⟩) ?_
    try go_simp
    refine wpAny_take (i := 5) (v := undef) rfl (by kernel_rfl) (by kernel_rfl) (by kernel_rfl) (fun _ _ _ h => h) (Or.inr ⟨by kernel_rfl, rfl⟩) ?_
    refine wpAny_take (i := 6) (v := undef) rfl (by kernel_rfl) (by kernel_rfl) (by kernel_rfl) (fun _ _ _ h => h) (Or.inr ⟨by kernel_rfl, rfl⟩) ?_
    refine wpAny_take (i := 7) (v := .bool true) rfl (by kernel_rfl) (by kernel_rfl) (by kernel_rfl) (fun _ _ _ h => h) (Or.inl ⟨by kernel_rfl, by intro w; go_simp⟩) ?_
    try go_simp
    refine wpAny_take (i := 8) (v := .bool true) rfl (by kernel_rfl) (by kernel_rfl) (by kernel_rfl) (fun _ _ _ h => h) (Or.inl ⟨by kernel_rfl, by intro w; go_simp⟩) ?_
    refine wpAny_take (i := 9) (v := undef) rfl (by kernel_rfl) (by kernel_rfl) (by kernel_rfl) (fun _ _ _ h => h) (Or.inr ⟨by kernel_rfl, rfl⟩) ?_
    refine wpAny_take (i := 10) (v := undef) rfl (by kernel_rfl) (by kernel_rfl) (by kernel_rfl) (fun _ _ _ h => h) (Or.inr ⟨by kernel_rfl, rfl⟩) ?_
    try go_simp
    refine wpAny_take (i := 11) (v := undef) rfl (by kernel_rfl) (by kernel_rfl) (by kernel_rfl) (fun _ _ _ h => h) (Or.inr ⟨by kernel_rfl, rfl⟩) ?_
    refine wpAny_take (i := 12) (v := undef) rfl (by kernel_rfl) (by kernel_rfl) (by kernel_rfl) (fun _ _ _ h => h) (Or.inr ⟨by kernel_rfl, rfl⟩) ?_
    refine wpAny_take (i := 13) (v := undef) rfl (by kernel_rfl) (by kernel_rfl) (by kernel_rfl) (fun _ _ _ h => h) (Or.inr ⟨by kernel_rfl, rfl⟩) ?_
    try go_simp
    refine wpAny_take (i := 14) (v := undef) rfl (by kernel_rfl) (by kernel_rfl) (by kernel_rfl) (fun _ _ _ h => h) (Or.inr ⟨by kernel_rfl, rfl⟩) ?_
    refine wpAny_take (i := 15) (v := undef) rfl (by kernel_rfl) (by kernel_rfl) (by kernel_rfl) (fun _ _ _ h => h) (Or.inr ⟨by kernel_rfl, rfl⟩) ?_
    refine wpAny_take (i := 16) (v := .bool true) rfl (by kernel_rfl) (by kernel_rfl) (by kernel_rfl) (fun _ _ _ h => h) (Or.inl ⟨by kernel_rfl, by intro w; go_simp⟩) ?_
    try go_simp
    refine wpAny_take (i := 17) (v := .bool true) rfl (by kernel_rfl) (by kernel_rfl) (by kernel_rfl) (fun _ _ _ h => h) (Or.inl ⟨by kernel_rfl, by intro w; go_simp⟩) ?_
    refine wpAny_take (i := 18) (v := undef) rfl (by kernel_rfl) (by kernel_rfl) (by kernel_rfl) (fun _ _ _ h => h) (Or.inr ⟨by kernel_rfl, rfl⟩) ?_
    refine wpAny_take (i := 19) (v := undef) rfl (by kernel_rfl) (by kernel_rfl) (by kernel_rfl) (fun _ _ _ h => h) (Or.inr ⟨by kernel_rfl, rfl⟩) ?_
    try go_simp
    refine wpAny_take (i := 20) (v := undef) rfl (by kernel_rfl) (by kernel_rfl) (by kernel_rfl) (fun _ _ _ h => h) (Or.inr ⟨by kernel_rfl, rfl⟩) ?_
    refine wpAny_take (i := 21) (v := undef) rfl (by kernel_rfl) (by kernel_rfl) (by kernel_rfl) (fun _ _ _ h => h) (Or.inr ⟨by kernel_rfl, rfl⟩) ?_
    refine wpAny_take (i := 22) (v := undef) rfl (by kernel_rfl) (by kernel_rfl) (by kernel_rfl) (fun _ _ _ h => h) (Or.inr ⟨by kernel_rfl, rfl⟩) ?_
    try go_simp
    refine wpAny_take (i := 23) (v := undef) rfl (by kernel_rfl) (by kernel_rfl) (by kernel_rfl) (fun _ _ _ h => h) (Or.inr ⟨by kernel_rfl, rfl⟩) ?_
    refine wpAny_take (i := 24) (v := undef) rfl (by kernel_rfl) (by kernel_rfl) (by kernel_rfl) (fun _ _ _ h => h) (Or.inr ⟨by kernel_rfl, rfl⟩) ?_
    refine wpAny_take (i := 25) (v := undef) rfl (by kernel_rfl) (by kernel_rfl) (by kernel_rfl) (fun _ _ _ h => h) (Or.inr ⟨by kernel_rfl, rfl⟩) ?_
    try go_simp
    refine wpAny_take (i := 26) (v := undef) rfl (by kernel_rfl) (by kernel_rfl) (by kernel_rfl) (fun _ _ _ h => h) (Or.inr ⟨by kernel_rfl, rfl⟩) ?_
    refine wpAny_take (i := 27) (v := undef) rfl (by kernel_rfl) (by kernel_rfl) (by kernel_rfl) (fun _ _ _ h => h) (Or.inr ⟨by kernel_rfl, rfl⟩) ?_
    refine wpAny_take (i := 28) (v := undef) rfl (by kernel_rfl) (by kernel_rfl) (by kernel_rfl) (fun _ _ _ h => h) (Or.inr ⟨by kernel_rfl, rfl⟩) ?_
    try go_simp
    refine wpAny_take (i := 29) (v := .bool true) rfl (by kernel_rfl) (by kernel_rfl) (by kernel_rfl) (fun _ _ _ h => h) (Or.inl ⟨by kernel_rfl, by intro w; go_simp⟩) ?_
    refine wpAny_done (by kernel_rfl) ?_ _
    go_wp2
    exact bodyPost_ret (v := .tuple #[.agg #[.slice none 0 0], .bool false]) (by simp [results, Try.results33, c1, go_sem]) rfl (RetEO.none_ Hf.out (C1.out.done (by omega) _))
  have Hv := hd hv
  cases hv' : engV ds
  · have Hf : Hid (addF cs ds = none) := hd (addF_none (by simp [hv']))
    have Hv' := hd hv'
    clear hv hv'
    go_enter Try.func33, Try.ntmps33
    go_wp2
    refine wp_region_any (by kernel_rfl) ?_
    change wpAny _ _ _ _ _ _ _ (World.drew _)
    obtain ⟨⟨c1, f1, -⟩, ⟨c2, f2, -⟩, ⟨c3, f3, -⟩⟩ := C0.out.at3
    refine wpAny_ready (rs := [0]) (by kernel_rfl) (by simp) ?_
    refine AllReady.cons rfl (fun K hK => ?_) AllReady.nil
    go_simp
    refine hK _ _ ?_; clear hK K
    clear c1 f1 c2 f2 c3 f3
    refine wpAny_ready (rs := [1]) (by kernel_rfl) (by simp) ?_
    refine AllReady.cons rfl (fun K hK => ?_) AllReady.nil
    go_simp
    go_at_call 89
    refine (sEngineValid_b _ A c cs true _ Hn.out (Hh.out.below C0.out.drew.1) Hs.out Hv.out).mono ?_
    rintro e w1 ⟨rfl, b1⟩
    have C1 := hd (C0.out.drew.below b1)
    obtain ⟨⟨c1, f1, -⟩, ⟨c2, f2, -⟩, ⟨c3, f3, -⟩⟩ := C1.out.at3
    clear b1
    try go_simp
    refine hK _ _ ?_; clear hK K
    refine wpAny_take (i := 2) (v := .bool false) rfl (by kernel_rfl) (by kernel_rfl) (by kernel_rfl) (fun _ _ _ h => h) (Or.inl ⟨by kernel_rfl, by intro w; go_simp⟩) ?_
    refine wpAny_take (i := 3) (v := .bool false) rfl (by kernel_rfl) (by kernel_rfl) (by kernel_rfl) (fun _ _ _ h => h) (Or.inl ⟨by kernel_rfl, by intro w; go_simp⟩) ?_
    refine wpAny_ready (rs := [4]) (by kernel_rfl) (by simp) ?_
    refine AllReady.cons rfl (fun K hK => ?_) AllReady.nil
    go_simp
    refine hK _ _ ?_; clear hK K
    refine wpAny_ready (rs := [5]) (by kernel_rfl) (by simp) ?_
    refine AllReady.cons rfl (fun K hK => ?_) AllReady.nil
    go_simp
    go_at_call 89
    refine (sEngineValid_b _ A' c' ds false _ Hm.out (Hh'.out.below C1.out.1) Hs'.out Hv'.out).mono ?_
    rintro e w2 ⟨rfl, b2⟩
    clear c1 f1 c2 f2 c3 f3
    have C2 := hd (C1.out.below b2)
    obtain ⟨⟨c1, f1, -⟩, ⟨c2, f2, -⟩, ⟨c3, f3, -⟩⟩ := C2.out.at3
    clear b2
    try go_simp
    refine hK _ _ ?_; clear hK K
    refine wpAny_take (i := 6) (v := .bool true) rfl (by kernel_rfl) (by kernel_rfl) (by kernel_rfl) (fun _ _ _ h => h) (Or.inl ⟨by kernel_rfl, by intro w; go_simp⟩) ?_
    try go_simp
    refine wpAny_take (i := 7) (v := .bool true) rfl (by kernel_rfl) (by kernel_rfl) (by kernel_rfl) (fun _ _ _ h => h) (Or.inl ⟨by kernel_rfl, by intro w; go_simp⟩) ?_
    refine wpAny_take (i := 8) (v := .bool true) rfl (by kernel_rfl) (by kernel_rfl) (by kernel_rfl) (fun _ _ _ h => h) (Or.inl ⟨by kernel_rfl, by intro w; go_simp⟩) ?_
    refine wpAny_take (i := 9) (v := undef) rfl (by kernel_rfl) (by kernel_rfl) (by kernel_rfl) (fun _ _ _ h => h) (Or.inr ⟨by kernel_rfl, rfl⟩) ?_
    try go_simp
    refine wpAny_take (i := 10) (v := undef) rfl (by kernel_rfl) (by kernel_rfl) (by kernel_rfl) (fun _ _ _ h => h) (Or.inr ⟨by kernel_rfl, rfl⟩) ?_
    refine wpAny_take (i := 11) (v := undef) rfl (by kernel_rfl) (by kernel_rfl) (by kernel_rfl) (fun _ _ _ h => h) (Or.inr ⟨by kernel_rfl, rfl⟩) ?_
    refine wpAny_take (i := 12) (v := undef) rfl (by kernel_rfl) (by kernel_rfl) (by kernel_rfl) (fun _ _ _ h => h) (Or.inr ⟨by kernel_rfl, rfl⟩) ?_
    try go_simp
    refine wpAny_take (i := 13) (v := undef) rfl (by kernel_rfl) (by kernel_rfl) (by kernel_rfl) (fun _ _ _ h => h) (Or.inr ⟨by kernel_rfl, rfl⟩) ?_
    refine wpAny_take (i := 14) (v := undef) rfl (by kernel_rfl) (by kernel_rfl) (by kernel_rfl) (fun _ _ _ h => h) (Or.inr ⟨by kernel_rfl, rfl⟩) ?_
    refine wpAny_take (i := 15) (v := undef) rfl (by kernel_rfl) (by kernel_rfl) (by kernel_rfl) (fun _ _ _ h => h) (Or.inr ⟨by kernel_rfl, rfl⟩) ?_
    try go_simp
    refine wpAny_take (i := 16) (v := .bool true) rfl (by kernel_rfl) (by kernel_rfl) (by kernel_rfl) (fun _ _ _ h => h) (Or.inl ⟨by kernel_rfl, by intro w; go_simp⟩) ?_
    refine wpAny_take (i := 17) (v := .bool true) rfl (by kernel_rfl) (by kernel_rfl) (by kernel_rfl) (fun _ _ _ h => h) (Or.inl ⟨by kernel_rfl, by intro w; go_simp⟩) ?_
    refine wpAny_take (i := 18) (v := undef) rfl (by kernel_rfl) (by kernel_rfl) (by kernel_rfl) (fun _ _ _ h => h) (Or.inr ⟨by kernel_rfl, rfl⟩) ?_
    try go_simp
    refine wpAny_take (i := 19) (v := undef) rfl (by kernel_rfl) (by kernel_rfl) (by kernel_rfl) (fun _ _ _ h => h) (Or.inr ⟨by kernel_rfl, rfl⟩) ?_
    refine wpAny_take (i := 20) (v := undef) rfl (by kernel_rfl) (by kernel_rfl) (by kernel_rfl) (fun _ _ _ h => h) (Or.inr ⟨by kernel_rfl, rfl⟩) ?_
    refine wpAny_take (i := 21) (v := undef) rfl (by kernel_rfl) (by kernel_rfl) (by kernel_rfl) (fun _ _ _ h => h) (Or.inr ⟨by kernel_rfl, rfl⟩) ?_
    try go_simp
    refine wpAny_take (i := 22) (v := undef) rfl (by kernel_rfl) (by kernel_rfl) (by kernel_rfl) (fun _ _ _ h => h) (Or.inr ⟨by kernel_rfl, rfl⟩) ?_
    refine wpAny_take (i := 23) (v := undef) rfl (by kernel_rfl) (by kernel_rfl) (by kernel_rfl) (fun _ _ _ h => h) (Or.inr ⟨by kernel_rfl, rfl⟩) ?_
    refine wpAny_take (i := 24) (v := undef) rfl (by kernel_rfl) (by kernel_rfl) (by kernel_rfl) (fun _ _ _ h => h) (Or.inr ⟨by kernel_rfl, rfl⟩) ?_
    try go_simp
    refine wpAny_take (i := 25) (v := undef) rfl (by kernel_rfl) (by kernel_rfl) (by kernel_rfl) (fun _ _ _ h => h) (Or.inr ⟨by kernel_rfl, rfl⟩) ?_
    refine wpAny_take (i := 26) (v := undef) rfl (by kernel_rfl) (by kernel_rfl) (by kernel_rfl) (fun _ _ _ h => h) (Or.inr ⟨by kernel_rfl, rfl⟩) ?_
    refine wpAny_take (i := 27) (v := undef) rfl (by kernel_rfl) (by kernel_rfl) (by kernel_rfl) (fun _ _ _ h => h) (Or.inr ⟨by kernel_rfl, rfl⟩) ?_
    try go_simp
    refine wpAny_take (i := 28) (v := undef) rfl (by kernel_rfl) (by kernel_rfl) (by kernel_rfl) (fun _ _ _ h => h) (Or.inr ⟨by kernel_rfl, rfl⟩) ?_
    refine wpAny_take (i := 29) (v := .bool true) rfl (by kernel_rfl) (by kernel_rfl) (by kernel_rfl) (fun _ _ _ h => h) (Or.inl ⟨by kernel_rfl, by intro w; go_simp⟩) ?_
    refine wpAny_done (by kernel_rfl) ?_ _
    go_wp2
    exact bodyPost_ret (v := .tuple #[.agg #[.slice none 0 0], .bool false]) (by simp [results, Try.results33, c1, go_sem]) rfl (RetEO.none_ Hf.out (C2.out.done (by omega) _))
  have Hv' := hd hv'
  by_cases hnm : n = m
  case neg =>
    have Hf : Hid (addF cs ds = none) := hd (addF_none (by simp [Hn.out, Hm.out, hnm]))
    have hne : ((n : Int) != m) = true := by simp; omega
    clear hv hv' hnm
    go_enter Try.func33, Try.ntmps33
    go_wp2
    refine wp_region_any (by kernel_rfl) ?_
    change wpAny _ _ _ _ _ _ _ (World.drew _)
    obtain ⟨⟨c1, f1, -⟩, ⟨c2, f2, -⟩, ⟨c3, f3, -⟩⟩ := C0.out.at3
    refine wpAny_ready (rs := [0]) (by kernel_rfl) (by simp) ?_
    refine AllReady.cons rfl (fun K hK => ?_) AllReady.nil
    go_simp
    refine hK _ _ ?_; clear hK K
    clear c1 f1 c2 f2 c3 f3
    refine wpAny_ready (rs := [1]) (by kernel_rfl) (by simp) ?_
    refine AllReady.cons rfl (fun K hK => ?_) AllReady.nil
    go_simp
    go_at_call 89
    refine (sEngineValid_b _ A c cs true _ Hn.out (Hh.out.below C0.out.drew.1) Hs.out Hv.out).mono ?_
    rintro e w1 ⟨rfl, b1⟩
    have C1 := hd (C0.out.drew.below b1)
    obtain ⟨⟨c1, f1, -⟩, ⟨c2, f2, -⟩, ⟨c3, f3, -⟩⟩ := C1.out.at3
    clear b1
    try go_simp
    refine hK _ _ ?_; clear hK K
    refine wpAny_take (i := 2) (v := .bool false) rfl (by kernel_rfl) (by kernel_rfl) (by kernel_rfl) (fun _ _ _ h => h) (Or.inl ⟨by kernel_rfl, by intro w; go_simp⟩) ?_
    refine wpAny_take (i := 3) (v := .bool false) rfl (by kernel_rfl) (by kernel_rfl) (by kernel_rfl) (fun _ _ _ h => h) (Or.inl ⟨by kernel_rfl, by intro w; go_simp⟩) ?_
    refine wpAny_ready (rs := [4]) (by kernel_rfl) (by simp) ?_
    refine AllReady.cons rfl (fun K hK => ?_) AllReady.nil
    go_simp
    refine hK _ _ ?_; clear hK K
    refine wpAny_ready (rs := [5]) (by kernel_rfl) (by simp) ?_
    refine AllReady.cons rfl (fun K hK => ?_) AllReady.nil
    go_simp
    go_at_call 89
    refine (sEngineValid_b _ A' c' ds true _ Hm.out (Hh'.out.below C1.out.1) Hs'.out Hv'.out).mono ?_
    rintro e w2 ⟨rfl, b2⟩
    clear c1 f1 c2 f2 c3 f3
    have C2 := hd (C1.out.below b2)
    obtain ⟨⟨c1, f1, -⟩, ⟨c2, f2, -⟩, ⟨c3, f3, -⟩⟩ := C2.out.at3
    clear b2
    try go_simp
    refine hK _ _ ?_; clear hK K
    refine wpAny_take (i := 6) (v := .bool false) rfl (by kernel_rfl) (by kernel_rfl) (by kernel_rfl) (fun _ _ _ h => h) (Or.inl ⟨by kernel_rfl, by intro w; go_simp⟩) ?_
    try go_simp
    refine wpAny_take (i := 7) (v := .bool false) rfl (by kernel_rfl) (by kernel_rfl) (by kernel_rfl) (fun _ _ _ h => h) (Or.inl ⟨by kernel_rfl, by intro w; go_simp⟩) ?_
    refine wpAny_take (i := 8) (v := .bool false) rfl (by kernel_rfl) (by kernel_rfl) (by kernel_rfl) (fun _ _ _ h => h) (Or.inl ⟨by kernel_rfl, by intro w; go_simp⟩) ?_
    refine wpAny_take (i := 9) (v := .pointer (some ⟨w.heap.size, 0, none⟩)) rfl (by kernel_rfl) (by kernel_rfl) (by kernel_rfl) (fun _ _ _ h => h) (Or.inl ⟨by kernel_rfl, by intro w; go_simp⟩) ?_
    try go_simp
    refine wpAny_take (i := 12) (v := .pointer (some ⟨w.heap.size + 1, 0, none⟩)) rfl (by kernel_rfl) (by kernel_rfl) (by kernel_rfl) (fun _ _ _ h => h) (Or.inl ⟨by kernel_rfl, by intro w; go_simp⟩) ?_
    refine wpAny_ready (rs := [10, 13]) (by kernel_rfl) (by simp) ?_
    refine AllReady.cons rfl (fun K hK => ?_) (AllReady.cons rfl (fun K hK => ?_) AllReady.nil)
    rotate_left
    · go_simp
      refine hK _ _ ?_; clear hK K
      refine wpAny_take (i := 14) (v := .int .i64 m) rfl (by kernel_rfl) (by kernel_rfl) (by kernel_rfl) (fun _ _ _ h => h) (Or.inl ⟨by kernel_rfl, by intro w; go_simp⟩) ?_
      refine wpAny_ready (rs := [10]) (by kernel_rfl) (by simp) ?_
      refine AllReady.cons rfl (fun K hK => ?_) AllReady.nil
      go_simp
      refine hK _ _ ?_; clear hK K
      refine wpAny_take (i := 11) (v := .int .i64 n) rfl (by kernel_rfl) (by kernel_rfl) (by kernel_rfl) (fun _ _ _ h => h) (Or.inl ⟨by kernel_rfl, by intro w; go_simp⟩) ?_
      try go_simp
      refine wpAny_take (i := 15) (v := .bool true) rfl (by kernel_rfl) (by kernel_rfl) (by kernel_rfl) (fun _ _ _ h => h) (Or.inl ⟨by kernel_rfl, by intro w; go_simp⟩) ?_
      refine wpAny_take (i := 16) (v := .bool true) rfl (by kernel_rfl) (by kernel_rfl) (by kernel_rfl) (fun _ _ _ h => h) (Or.inl ⟨by kernel_rfl, by intro w; go_simp⟩) ?_
      refine wpAny_take (i := 17) (v := .bool true) rfl (by kernel_rfl) (by kernel_rfl) (by kernel_rfl) (fun _ _ _ h => h) (Or.inl ⟨by kernel_rfl, by intro w; go_simp⟩) ?_
      try go_simp
      refine wpAny_take (i := 18) (v := undef) rfl (by kernel_rfl) (by kernel_rfl) (by kernel_rfl) (fun _ _ _ h => h) (Or.inr ⟨by kernel_rfl, rfl⟩) ?_
      refine wpAny_take (i := 19) (v := undef) rfl (by kernel_rfl) (by kernel_rfl) (by kernel_rfl) (fun _ _ _ h => h) (Or.inr ⟨by kernel_rfl, rfl⟩) ?_
      refine wpAny_take (i := 20) (v := undef) rfl (by kernel_rfl) (by kernel_rfl) (by kernel_rfl) (fun _ _ _ h => h) (Or.inr ⟨by kernel_rfl, rfl⟩) ?_
      try go_simp
      refine wpAny_take (i := 21) (v := undef) rfl (by kernel_rfl) (by kernel_rfl) (by kernel_rfl) (fun _ _ _ h => h) (Or.inr ⟨by kernel_rfl, rfl⟩) ?_
      refine wpAny_take (i := 22) (v := undef) rfl (by kernel_rfl) (by kernel_rfl) (by kernel_rfl) (fun _ _ _ h => h) (Or.inr ⟨by kernel_rfl, rfl⟩) ?_
      refine wpAny_take (i := 23) (v := undef) rfl (by kernel_rfl) (by kernel_rfl) (by kernel_rfl) (fun _ _ _ h => h) (Or.inr ⟨by kernel_rfl, rfl⟩) ?_
      try go_simp
      refine wpAny_take (i := 24) (v := undef) rfl (by kernel_rfl) (by kernel_rfl) (by kernel_rfl) (fun _ _ _ h => h) (Or.inr ⟨by kernel_rfl, rfl⟩) ?_
      refine wpAny_take (i := 25) (v := undef) rfl (by kernel_rfl) (by kernel_rfl) (by kernel_rfl) (fun _ _ _ h => h) (Or.inr ⟨by kernel_rfl, rfl⟩) ?_
      refine wpAny_take (i := 26) (v := undef) rfl (by kernel_rfl) (by kernel_rfl) (by kernel_rfl) (fun _ _ _ h => h) (Or.inr ⟨by kernel_rfl, rfl⟩) ?_
      try go_simp
      refine wpAny_take (i := 27) (v := undef) rfl (by kernel_rfl) (by kernel_rfl) (by kernel_rfl) (fun _ _ _ h => h) (Or.inr ⟨by kernel_rfl, rfl⟩) ?_
      refine wpAny_take (i := 28) (v := undef) rfl (by kernel_rfl) (by kernel_rfl) (by kernel_rfl) (fun _ _ _ h => h) (Or.inr ⟨by kernel_rfl, rfl⟩) ?_
      refine wpAny_take (i := 29) (v := .bool true) rfl (by kernel_rfl) (by kernel_rfl) (by kernel_rfl) (fun _ _ _ h => h) (Or.inl ⟨by kernel_rfl, by intro w; go_simp⟩) ?_
      try go_simp
      refine wpAny_done (by kernel_rfl) ?_ _
      go_wp2
      exact bodyPost_ret (v := .tuple #[.agg #[.slice none 0 0], .bool false]) (by simp [results, Try.results33, c1, go_sem]) rfl (RetEO.none_ Hf.out (C2.out.done (by omega) _))
    · go_simp
      refine hK _ _ ?_; clear hK K
      refine wpAny_take (i := 11) (v := .int .i64 n) rfl (by kernel_rfl) (by kernel_rfl) (by kernel_rfl) (fun _ _ _ h => h) (Or.inl ⟨by kernel_rfl, by intro w; go_simp⟩) ?_
      refine wpAny_ready (rs := [13]) (by kernel_rfl) (by simp) ?_
      refine AllReady.cons rfl (fun K hK => ?_) AllReady.nil
      go_simp
      refine hK _ _ ?_; clear hK K
      refine wpAny_take (i := 14) (v := .int .i64 m) rfl (by kernel_rfl) (by kernel_rfl) (by kernel_rfl) (fun _ _ _ h => h) (Or.inl ⟨by kernel_rfl, by intro w; go_simp⟩) ?_
      refine wpAny_take (i := 15) (v := .bool true) rfl (by kernel_rfl) (by kernel_rfl) (by kernel_rfl) (fun _ _ _ h => h) (Or.inl ⟨by kernel_rfl, by intro w; go_simp⟩) ?_
      try go_simp
      refine wpAny_take (i := 16) (v := .bool true) rfl (by kernel_rfl) (by kernel_rfl) (by kernel_rfl) (fun _ _ _ h => h) (Or.inl ⟨by kernel_rfl, by intro w; go_simp⟩) ?_
      refine wpAny_take (i := 17) (v := .bool true) rfl (by kernel_rfl) (by kernel_rfl) (by kernel_rfl) (fun _ _ _ h => h) (Or.inl ⟨by kernel_rfl, by intro w; go_simp⟩) ?_
      refine wpAny_take (i := 18) (v := undef) rfl (by kernel_rfl) (by kernel_rfl) (by kernel_rfl) (fun _ _ _ h => h) (Or.inr ⟨by kernel_rfl, rfl⟩) ?_
      try go_simp
      refine wpAny_take (i := 19) (v := undef) rfl (by kernel_rfl) (by kernel_rfl) (by kernel_rfl) (fun _ _ _ h => h) (Or.inr ⟨by kernel_rfl, rfl⟩) ?_
      refine wpAny_take (i := 20) (v := undef) rfl (by kernel_rfl) (by kernel_rfl) (by kernel_rfl) (fun _ _ _ h => h) (Or.inr ⟨by kernel_rfl, rfl⟩) ?_
      refine wpAny_take (i := 21) (v := undef) rfl (by kernel_rfl) (by kernel_rfl) (by kernel_rfl) (fun _ _ _ h => h) (Or.inr ⟨by kernel_rfl, rfl⟩) ?_
      try go_simp
      refine wpAny_take (i := 22) (v := undef) rfl (by kernel_rfl) (by kernel_rfl) (by kernel_rfl) (fun _ _ _ h => h) (Or.inr ⟨by kernel_rfl, rfl⟩) ?_
      refine wpAny_take (i := 23) (v := undef) rfl (by kernel_rfl) (by kernel_rfl) (by kernel_rfl) (fun _ _ _ h => h) (Or.inr ⟨by kernel_rfl, rfl⟩) ?_
      refine wpAny_take (i := 24) (v := undef) rfl (by kernel_rfl) (by kernel_rfl) (by kernel_rfl) (fun _ _ _ h => h) (Or.inr ⟨by kernel_rfl, rfl⟩) ?_
      try go_simp
      refine wpAny_take (i := 25) (v := undef) rfl (by kernel_rfl) (by kernel_rfl) (by kernel_rfl) (fun _ _ _ h => h) (Or.inr ⟨by kernel_rfl, rfl⟩) ?_
      refine wpAny_take (i := 26) (v := undef) rfl (by kernel_rfl) (by kernel_rfl) (by kernel_rfl) (fun _ _ _ h => h) (Or.inr ⟨by kernel_rfl, rfl⟩) ?_
      refine wpAny_take (i := 27) (v := undef) rfl (by kernel_rfl) (by kernel_rfl) (by kernel_rfl) (fun _ _ _ h => h) (Or.inr ⟨by kernel_rfl, rfl⟩) ?_
      try go_simp
      refine wpAny_take (i := 28) (v := undef) rfl (by kernel_rfl) (by kernel_rfl) (by kernel_rfl) (fun _ _ _ h => h) (Or.inr ⟨by kernel_rfl, rfl⟩) ?_
      refine wpAny_take (i := 29) (v := .bool true) rfl (by kernel_rfl) (by kernel_rfl) (by kernel_rfl) (fun _ _ _ h => h) (Or.inl ⟨by kernel_rfl, by intro w; go_simp⟩) ?_
      refine wpAny_done (by kernel_rfl) ?_ _
      go_wp2
      exact bodyPost_ret (v := .tuple #[.agg #[.slice none 0 0], .bool false]) (by simp [results, Try.results33, c1, go_sem]) rfl (RetEO.none_ Hf.out (C2.out.done (by omega) _))
  subst hnm
  obtain ⟨he, hW1, hW12, hn1, hn7⟩ := engV_vals hv
  obtain ⟨he', hW1', hW12', hn1', hn7'⟩ := engV_vals hv'
  have Hl : Hid ((cvs cs).length = n) := hd (by simp [cvs, Hn.out])
  have Hl' : Hid ((cvs ds).length = n) := hd (by simp [cvs, Hm.out])
  obtain ⟨W, hW⟩ : ∃ W, W = hsz cs := ⟨_, rfl⟩
  obtain ⟨vs, hvs⟩ : ∃ vs, vs = cvs cs := ⟨_, rfl⟩
  obtain ⟨W', hW'⟩ : ∃ W', W' = hsz ds := ⟨_, rfl⟩
  obtain ⟨us, hus⟩ : ∃ us, us = cvs ds := ⟨_, rfl⟩
  rw [← hW, ← hvs] at he
  rw [← hW', ← hus] at he'
  rw [← hW] at hW1 hW12
  rw [← hW'] at hW1' hW12'
  rw [← hvs] at hn1 hn7 Hl
  rw [← hus] at hn1' hn7' Hl'
  rw [Hl.out] at hn1 hn7
  have hne : ((n : Int) != n) = false := by simp
  obtain ⟨x0, Hx0⟩ : ∃ x, Hid (vs[0]? = some x) := ⟨vs[0]'(by rw [Hl.out]; omega), hd (List.getElem?_eq_getElem _)⟩
  obtain ⟨y0, Hy0⟩ : ∃ y, Hid (us[0]? = some y) := ⟨us[0]'(by rw [Hl'.out]; omega), hd (List.getElem?_eq_getElem _)⟩
  obtain ⟨s1, bA, oA, hs1, hA, hbA, hcA⟩ := Hh.out.at_ (k := 0) (by rw [Hn.out]; omega)
  obtain rfl : s1 = showC W x0 := by rw [he, eng_at Hx0.out] at hs1; injection hs1 with hs1; exact hs1.symm
  obtain ⟨s2, bB, oB, hs2, hB, hbB, hcB⟩ := Hh'.out.at_ (k := 0) (by rw [Hm.out]; omega)
  obtain rfl : s2 = showC W' y0 := by rw [he', eng_at Hy0.out] at hs2; injection hs2 with hs2; exact hs2.symm
  subst hA hB
  rw [Nat.add_zero] at hcA hcB
  have HcA := hd hcA
  have HcB := hd hcB
  have HbA := hd hbA
  have HbB := hd hbB
  have hszA : Hid ((showC W x0).size = W) := hd (showC_size W x0)
  have hszB : Hid ((showC W' y0).size = W') := hd (showC_size W' y0)
  clear hs1 hs2 hcA hcB hbA hbB
  have e0 : (0 : Int) < n := by omega
  have e00 : 0 < n := by omega
  by_cases hWW : W = W'
  case neg =>
    have Hf : Hid (addF cs ds = none) := hd (addF_none (by rw [hW, hW'] at hWW; simp [hWW]))
    have hneW : (((showC W x0).size : Int) != (showC W' y0).size) = true := by rw [hszA.out, hszB.out]; simp; omega
    clear hv hv' he he' hW hW' hvs hus hn1' hn7' hWW
    go_enter Try.func33, Try.ntmps33
    go_wp2
    go_region_held3 (fun w' => w'.cell? ⟨w.heap.size, 0, none⟩ = some (.slice (some ⟨bA, oA, none⟩) n c) ∧ w'.cell? ⟨w.heap.size + 1, 0, none⟩ = some (.slice (some ⟨bB, oB, none⟩) n c') ∧ w'.cell? ⟨bA, oA, none⟩ = some (.string (showC W x0)) ∧ w'.cell? ⟨bB, oB, none⟩ = some (.string (showC W' y0))) (first | exact ⟨C2.out.at3.2.2.1, C2.out.at3.2.1.1, C2.out.old HbA.out HcA.out, C2.out.old HbB.out HcB.out⟩ | exact ⟨C1.out.at3.2.2.1, C1.out.at3.2.1.1, C1.out.old HbA.out HcA.out, C1.out.old HbB.out HcB.out⟩ | exact ⟨C0.out.drew.at3.2.2.1, C0.out.drew.at3.2.1.1, C0.out.drew.old HbA.out HcA.out, C0.out.drew.old HbB.out HcB.out⟩ | go_keep)
      (first
        | (go_simp; go_at_call 89; refine (sEngineValid_b _ _ c' ds true _ Hm.out (Hh'.out.below C1.out.1) Hs'.out Hv'.out).mono ?_; rintro e w2 ⟨rfl, b2⟩; have C2 := hd (C1.out.below b2); clear b2)
        | (go_simp; go_at_call 89; refine (sEngineValid_b _ _ c cs true _ Hn.out (Hh.out.below C0.out.drew.1) Hs.out Hv.out).mono ?_; rintro e w1 ⟨rfl, b1⟩; have C1 := hd (C0.out.drew.below b1); clear b1))
    all_goals
      obtain ⟨⟨c1, f1, -⟩, ⟨c2, f2, -⟩, ⟨c3, f3, -⟩⟩ := C2.out.at3
      go_wp2
      exact bodyPost_ret (v := .tuple #[.agg #[.slice none 0 0], .bool false]) (by simp [results, Try.results33, c1, go_sem]) rfl (RetEO.none_ Hf.out (C2.out.done (by omega) _))
  subst hWW
  have hneW : (((showC W x0).size : Int) != (showC W y0).size) = false := by rw [hszA.out, hszB.out]; simp
  have Hf : Hid (addF cs ds = some (eng W (plusV vs us))) := hd (by rw [hW, hvs, hus]; exact addF_some hv hv' (by rw [Hn.out, Hm.out]) (hW.symm.trans hW'))
  have He := hd he
  have He' := hd he'
  obtain ⟨zs, Hzs⟩ : ∃ zs, Hid (plusV vs us = zs) := ⟨_, hd rfl⟩
  rw [Hzs.out] at Hf
  have Hzl : Hid (zs.length = vs.length) := hd (by rw [← Hzs.out, plusV_length])
  have Hel0 : Hid ((eng W vs).length = n) := hd (by rw [eng_length, Hl.out])
  clear hv hv' he he' hW hW' hvs hus hn1' hn7'
  go_enter Try.func33, Try.ntmps33
  go_wp2
  go_region_held3 (fun w' => w'.cell? ⟨w.heap.size, 0, none⟩ = some (.slice (some ⟨bA, oA, none⟩) n c) ∧ w'.cell? ⟨w.heap.size + 1, 0, none⟩ = some (.slice (some ⟨bB, oB, none⟩) n c') ∧ w'.cell? ⟨bA, oA, none⟩ = some (.string (showC W x0)) ∧ w'.cell? ⟨bB, oB, none⟩ = some (.string (showC W y0))) (first | exact ⟨C2.out.at3.2.2.1, C2.out.at3.2.1.1, C2.out.old HbA.out HcA.out, C2.out.old HbB.out HcB.out⟩ | exact ⟨C1.out.at3.2.2.1, C1.out.at3.2.1.1, C1.out.old HbA.out HcA.out, C1.out.old HbB.out HcB.out⟩ | exact ⟨C0.out.drew.at3.2.2.1, C0.out.drew.at3.2.1.1, C0.out.drew.old HbA.out HcA.out, C0.out.drew.old HbB.out HcB.out⟩ | go_keep)
    (first
      | (go_simp; go_at_call 89; refine (sEngineValid_b _ _ c' ds true _ Hm.out (Hh'.out.below C1.out.1) Hs'.out Hv'.out).mono ?_; rintro e w2 ⟨rfl, b2⟩; have C2 := hd (C1.out.below b2); clear b2)
      | (go_simp; go_at_call 89; refine (sEngineValid_b _ _ c cs true _ Hn.out (Hh.out.below C0.out.drew.1) Hs.out Hv.out).mono ?_; rintro e w1 ⟨rfl, b1⟩; have C1 := hd (C0.out.drew.below b1); clear b1))
  all_goals
    have S2 : Hid (SS w2 (some ⟨bA, oA, none⟩) (eng W vs)) := hd (by rw [← He.out]; exact Hh.out.below C2.out.1)
    obtain ⟨⟨c1, f1, g1⟩, ⟨c2, f2, -⟩, ⟨c3, f3, -⟩⟩ := C2.out.at3
    go_wp2_with fail
    refine (l3Copy_any _ c n (eng W vs) _ S2.out Hel0.out hn1 (by omega)).mono ?_
    rintro e w3 ⟨A1, cap1, rfl, own1, b1⟩
    obtain ⟨g, hA1, hg1, hg2⟩ := own1.addr (by rw [Hel0.out]; omega)
    subst hA1
    have hg3 : w.heap.size + 3 ≤ g := by omega
    have Own1 := hd (own1.low (B' := w.heap.size + 3) (by omega))
    rw [Hel0.out]
    have C3 := hd (C2.out.below b1)
    have C3 := hd (C3.out.new (.slice (some ⟨g, 0, none⟩) n cap1) 36 rfl)
    have Own3 := hd (Own1.out.alloc (.cells #[.slice (some ⟨g, 0, none⟩) n cap1] 36))
    obtain ⟨gc, hgc⟩ : ∃ gc, gc = w3.heap.size := ⟨_, rfl⟩
    have hgo : g ≠ gc := by omega
    have hgc2 : w.heap.size + 3 ≤ gc := by omega
    clear c1 f1 c2 f2 c3 f3 b1 own1 S2 C2 C1 C0 Own1 HcA HcB hszA hszB hneW Hx0 Hy0
    rw [← hgc] at C3
    obtain ⟨⟨c0, f0, -⟩, ⟨c1, f1, -⟩, ⟨c2, f2, -⟩⟩ := C3.out.at3
    obtain ⟨c3, f3, -⟩ := C3.out.tail.tail.tail.at1
    go_wp2
    rw [← hgc]
    go_loopw [7] (fun i wr => ∃ k : Nat, k ≤ n ∧ i = .int .i64 k ∧ OwnS 9 (w.heap.size + 3) wr (some ⟨g, 0, none⟩) cap1 (eng W (mixV zs vs k)) ∧ Cs w wr [(gc, .slice (some ⟨g, 0, none⟩) n cap1), (w.heap.size + 2, .slice none 0 0), (w.heap.size + 1, .slice (some ⟨bB, oB, none⟩) n c'), (w.heap.size, .slice (some ⟨bA, oA, none⟩) n c)])
      (fun i _ => n - (intOf i).toNat)
    case atStart => exact ⟨0, by omega, rfl, by rw [mixV_zero]; exact Own3.out, C3.out⟩
    case round =>
      clear Own3 C3 c0 f0 c1 f1 c2 f2 c3 f3 hgc
      obtain ⟨k, hk, rfl, own, cc⟩ := hrel
      have Own := hd own
      have C4 := hd cc
      clear own cc
      obtain ⟨⟨c0, f0, -⟩, ⟨c1, f1, -⟩, ⟨c2, f2, -⟩⟩ := C4.out.at3
      obtain ⟨c3, f3, -⟩ := C4.out.tail.tail.tail.at1
      by_cases hlt : k < n
      · obtain ⟨x, Hx⟩ : ∃ x, Hid (vs[k]? = some x) := ⟨vs[k]'(by rw [Hl.out]; omega), hd (List.getElem?_eq_getElem _)⟩
        obtain ⟨y, Hy⟩ : ∃ y, Hid (us[k]? = some y) := ⟨us[k]'(by rw [Hl'.out]; omega), hd (List.getElem?_eq_getElem _)⟩
        have Hz : Hid (zs[k]? = some (x + y)) := hd (by rw [← Hzs.out]; exact plusV_at Hx.out Hy.out)
        obtain ⟨s1, b, off, hs1, hA, hbA, hcA⟩ := Hh.out.at_ (k := k) (by rw [Hn.out]; omega)
        obtain rfl : s1 = showC W x := by
          have h2 := He.out
          rw [h2, eng_at Hx.out] at hs1; injection hs1 with hs1; exact hs1.symm
        simp only [Option.some.injEq, Addr.mk.injEq, and_true] at hA
        obtain ⟨rfl, rfl⟩ := hA
        obtain ⟨s2, b', off', hs2, hB, hbB, hcB⟩ := Hh'.out.at_ (k := k) (by rw [Hm.out]; omega)
        obtain rfl : s2 = showC W y := by
          have h2 := He'.out
          rw [h2, eng_at Hy.out] at hs2; injection hs2 with hs2; exact hs2.symm
        simp only [Option.some.injEq, Addr.mk.injEq, and_true] at hB
        obtain ⟨rfl, rfl⟩ := hB
        have HcA := hd hcA
        have HcB := hd hcB
        clear hs1 hs2 hcA hcB
        have Hlx : Hid (k < (eng W (mixV zs vs k)).length) := hd (by rw [eng_length, mixV_length Hzl.out, Hl.out]; exact hlt)
        have e1 : (k : Int) < n := by omega
        have hgs : ∀ p ∈ [(gc, Value.slice (some ⟨g, 0, none⟩) n cap1), (w.heap.size + 2, .slice none 0 0), (w.heap.size + 1, .slice (some ⟨bB, oB, none⟩) n c'), (w.heap.size, .slice (some ⟨bA, oA, none⟩) n c)], g ≠ p.1 := by simp; omega
        have Hgs := hd hgs
        clear hgs
        have hgB : w.heap.size ≤ g := by omega
        go_wp2
        go_region_held3 (fun w' => w'.cell? ⟨gc, 0, none⟩ = some (.slice (some ⟨g, 0, none⟩) n cap1) ∧ w'.cell? ⟨w.heap.size, 0, none⟩ = some (.slice (some ⟨bA, oA, none⟩) n c) ∧ w'.cell? ⟨w.heap.size + 1, 0, none⟩ = some (.slice (some ⟨bB, oB, none⟩) n c') ∧ w'.cell? ⟨bA, oA + k, none⟩ = some (.string (showC W x)) ∧ w'.cell? ⟨bB, oB + k, none⟩ = some (.string (showC W y)))
          (first | exact ⟨C6.out.at1.1, C6.out.tail.tail.tail.at1.1, C6.out.tail.tail.at1.1, C6.out.old hbA HcA.out, C6.out.old hbB HcB.out⟩ | exact ⟨C5.out.at1.1, C5.out.tail.tail.tail.at1.1, C5.out.tail.tail.at1.1, C5.out.old hbA HcA.out, C5.out.old hbB HcB.out⟩ | exact ⟨C4.out.drew.at1.1, C4.out.drew.tail.tail.tail.at1.1, C4.out.drew.tail.tail.at1.1, C4.out.drew.old hbA HcA.out, C4.out.drew.old hbB HcB.out⟩ | go_keep)
          (first | (go_simp; go_at_call 90; refine (l3Plus_c W x y wr.drew hW1 hW12).mono ?_; rintro e w4 ⟨rfl, b4⟩; have Own4 := hd (Own.out.drew.below b4); have C5 := hd (C4.out.drew.below b4); have C6 := hd (C5.out.set (r := g) Hgs.out hgB k (.string (showC W (x + y)))); obtain ⟨g', o, ho, hg', hco, hfo⟩ := Own4.out.at_ (k := k) Hlx.out; simp only [Option.some.injEq, Addr.mk.injEq, and_true] at hg'; subst hg'; clear b4 ho))
        all_goals
          clear e1 c0 f0 c1 f1 c2 f2 c3 f3
          have Own7 := hd (Own4.out.set k (showC W (x + y)))
          have Hnx : Hid ((eng W (mixV zs vs k)).set k (showC W (x + y)) = eng W (mixV zs vs (k + 1))) := hd (by rw [eng_set, mixV_set Hzl.out Hz.out])
          go_wp2
          go_roundw
          case rel => exact ⟨k + 1, by omega, by go_num, by rw [← Hnx.out]; exact Own7.out, C6.out⟩
          case measure => simp [intOf] <;> omega
      · obtain rfl : k = n := by omega
        have Hfu : Hid (mixV zs vs k = zs) := hd (mixV_full Hzl.out (by have := Hl.out; omega))
        have Hel : Hid ((eng W zs).length = k) := hd (by rw [eng_length, Hzl.out, Hl.out])
        rw [Hfu.out] at Own
        have Ow := hd ((Own.out.keep_lo (grown_set wr ⟨w.heap.size + 2, 0, none⟩ (.slice (some ⟨g, 0, none⟩) k cap1)) (fun r hr => by simp at hr; omega)).low (show w.heap.size ≤ w.heap.size + 3 by omega))
        go_wp2
        exact bodyPost_ret (v := .tuple #[.agg #[.slice (some ⟨g, 0, none⟩) k cap1], .bool true]) (by simp [results, Try.results33, c1, go_sem]) rfl (RetEO.some_ Hf.out Ow.out Hel.out.symm (C4.out.done (by omega) _))

theorem addF_length {cs ds z : List ByteArray} (h : (addF cs ds).getD [] = z) : z.length ≤ 1048576 := by
  subst h
  unfold addF
  split
  · rename_i hc
    rw [Bool.and_eq_true] at hc
    have := (engV_vals hc.1).2.2.2.2
    simp only [Option.getD_some, eng_length, plusV_length]
    omega
  · simp
theorem AddEngines_z (A : Option Addr) (c n : Nat) (cs : List ByteArray) (A' : Option Addr) (c' m : Nat) (ds z : List ByteArray) (ok : Bool) (w : World) (hn : cs.length = n) (h : SS w A cs) (hs : Short cs) (hm : ds.length = m) (h' : SS w A' ds) (hs' : Short ds) (hz : (addF cs ds).getD [] = z ∧ (addF cs ds).isSome = ok) :
    Calls Try.prog 32 #[.agg #[.slice A n c], .agg #[.slice A' m c']] w fun e w' => RetEB 9 w.heap.size w z ok e w' := by
  obtain ⟨rfl, rfl⟩ := hz
  exact AddEngines_any A A' c c' n m cs ds w hn hm h h' hs hs'
theorem sAddEngines_z (A : Option Addr) (c n : Nat) (cs : List ByteArray) (A' : Option Addr) (c' m : Nat) (ds z : List ByteArray) (ok : Bool) (w : World) (hn : cs.length = n) (h : SS w A cs) (hs : Short cs) (hm : ds.length = m) (h' : SS w A' ds) (hs' : Short ds) (hz : (addF cs ds).getD [] = z ∧ (addF cs ds).isSome = ok) :
    Calls Try.prog 33 #[.agg #[.slice A n c], .agg #[.slice A' m c']] w fun e w' => RetEB 9 w.heap.size w z ok e w' := by
  obtain ⟨rfl, rfl⟩ := hz
  exact sAddEngines_any A A' c c' n m cs ds w hn hm h h' hs hs'

end Go.Proofs.Ytkmblobfamhoiaa
