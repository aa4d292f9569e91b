/- The walk of the law on tables of differences: it returns true, whatever the draw. -/
import Derived.Test.YtkmblobfamhoiaaTabB
import Derived.Test.YtkmblobfamhoiaaDrawH
import Derived.Test.YtkmblobfamhoiaaLawC
import Derived.Deep.QuietTactic
import Derived.BigQuiet
namespace Go.Proofs.Ytkmblobfamhoiaa
open Go.RowKit
set_option maxRecDepth 4000

theorem DiffTable_m (m : Nat) (A : Option Addr) (c : Nat) (zs : List Int) (w : World) (h : SI w A zs) (hm : dtN zs = m) :
    Calls Try.prog 16 #[.slice A zs.length c] w fun e w' => RetT zs m w e w' := by
  subst hm; exact DiffTable_any A c zs w h
theorem sDiffTable_m (m : Nat) (A : Option Addr) (c : Nat) (zs : List Int) (w : World) (h : SI w A zs) (h60 : zs.length ≤ 100) (hm : dtN zs = m) :
    Calls Try.prog 17 #[.slice A zs.length c] w fun e w' => RetT zs m w e w' := by
  subst hm; exact sDiffTable_any A c zs w h h60
theorem SG.cellT {w : World} {b off : Nat} {xs : List Value} {k : Nat} {x : Value} (h : SG asV w (some ⟨b, off, none⟩) xs) (hk : xs[k]? = some x) : w.cell? ⟨b, off + k, none⟩ = some x := by
  obtain ⟨b', off', e, hb, hc⟩ := h.2 k x (by simp [hk, asV])
  simp only [Option.some.injEq, Addr.mk.injEq, and_true] at e
  obtain ⟨rfl, rfl⟩ := e
  exact hc
theorem SI.cellT {w : World} {b off : Nat} {xs : List Int} {k : Nat} {x : Int} (h : SI w (some ⟨b, off, none⟩) xs) (hk : xs[k]? = some x) : w.cell? ⟨b, off + k, none⟩ = some (.int .i64 x) := by
  obtain ⟨b', off', e, hb, hc⟩ := h.2 k (.int .i64 x) (by simp [hk])
  simp only [Option.some.injEq, Addr.mk.injEq, and_true] at e
  obtain ⟨rfl, rfl⟩ := e
  exact hc
theorem quiet_more2 {P : Program} {f : FuncId} {args : Array Value} {w : World} {a n : Nat} {v : Value} (h : Calls P f args (w.drewN (a + n)) fun e w' => e = .returned v ∧ ∃ m, w' = (w.drewN (a + n)).drewN m) :
    Calls P f args (w.drewN (a + n)) fun e w' => e = .returned v ∧ ∃ m, w' = w.drewN (a + m) :=
  h.mono fun _ _ ⟨h1, m, h2⟩ => ⟨h1, n + m, by rw [h2, World.drewN_drewN, Nat.add_assoc]⟩
/-- A row of the table: its place and what it reads. -/
theorem RowsAt.row {w : World} {b off : Nat} {Vs : List Value} {zs : List Int} (h : RowsAt w Vs zs) (hs : SG asV w (some ⟨b, off, none⟩) Vs) (hl : Vs.length = zs.length) {k : Nat} (hk : k < zs.length) :
    ∃ b1 o1 c1, w.cell? ⟨b, off + k, none⟩ = some (.slice (some ⟨b1, o1, none⟩) (zs.length - k) c1) ∧ SI w (some ⟨b1, o1, none⟩) (nbrs k zs) := by
  obtain ⟨V, hV⟩ : ∃ V, Vs[k]? = some V := ⟨Vs[k]'(by omega), List.getElem?_eq_getElem _⟩
  obtain ⟨A, c, rfl, h2⟩ := h k V hV
  obtain ⟨b1, o1, rfl, hb⟩ := h2.nonempty (by rw [nbrs_length]; omega)
  refine ⟨b1, o1, c, ?_, h2⟩
  have := hs.cellT hV
  rwa [nbrs_length] at this

theorem DiffTable_big (A : Option Addr) (c n : Nat) (w : World) (h1 : 1048576 < n) (h2 : n ≤ 9223372036854775807) :
    Calls Try.prog 3 #[.slice A n c] w fun e w' => e = .returned (.bool true) ∧ Below w.heap.size w w' := by
  have hbig' : (1048576 : Int) < n := by omega
  go_enter Try.func3, Try.ntmps3
  go_wp2
  go_ret
  exact ⟨rfl, Below.refl _ _⟩

set_option maxHeartbeats 4000000 in
theorem DiffTable_walk (A : Option Addr) (c : Nat) (zs : List Int) (w : World) (h : SR w A (zs.map (Value.int .u8))) (hbig : zs.length ≤ 1048576) (hcap : zs.length ≤ c) (hx : ∀ x ∈ zs, 0 ≤ x ∧ x ≤ 255) :
    Calls Try.prog 3 #[.slice A zs.length c] w fun e w' => e = .returned (.bool true) ∧ Below w.heap.size w w' := by
  have H := hd h
  have Hx := hd hx
  have hbig' : ¬ (1048576 : Int) < zs.length := by omega
  clear h hx
  go_enter Try.func3, Try.ntmps3
  go_wp2_with fail
  refine (DrawDiffTable_any A c zs _ H.out hcap Hx.out).mono ?_
  rintro e w1 ⟨A1, c1, q, rfl, hq61, own, hcap1, k1⟩
  have Pq := hd own.si
  clear own
  cases hb : dtB q
  · have Hm : Hid (dtN q = 0) := hd (dtN_no hb)
    clear hb
    go_wp2_with fail
    refine (DiffTable_m 0 A1 c1 q _ Pq.out Hm.out).mono ?_
    rintro e w2 ⟨A2, c2, Vs, rfl, -, -, -, b2⟩
    have Pq := hd (Pq.out.below b2)
    have k2 := k1.trans (b2.mono k1.size)
    clear b2
    go_wp2_with fail
    refine (sDiffTable_m 0 A1 c1 q _ Pq.out (by omega) Hm.out).mono ?_
    rintro e w3 ⟨A3, c3, Ws, rfl, -, -, -, b3⟩
    have k3 := k2.trans (b3.mono k2.size)
    clear b3
    go_wp2
    go_ret
    exact ⟨rfl, k3⟩
  · have Hm : Hid (dtN q = q.length) := hd (dtN_yes hb)
    have Hb := hd hb
    have hbb : tabV q = true ∧ q.length ≤ 30 := by simpa [dtB] using hb
    obtain ⟨ht, h30⟩ := hbb
    have hpos : 0 < q.length := (tabV_iff.1 ht).1
    clear hb ht
    go_wp2_with fail
    refine (DiffTable_m q.length A1 c1 q _ Pq.out Hm.out).mono ?_
    rintro e w2 ⟨A2, c2, Vs, rfl, hvl, hvs, hvr, b2⟩
    have Pq := hd (Pq.out.below b2)
    have k2 := k1.trans (b2.mono k1.size)
    have Hvl := hd hvl
    have Hvs := hd hvs
    have Hvr := hd hvr
    clear b2 hvl hvs hvr
    go_wp2_with fail
    refine (sDiffTable_m q.length A1 c1 q _ Pq.out (by omega) Hm.out).mono ?_
    rintro e w3 ⟨A3, c3, Ws, rfl, hwl, hws, hwr, b3⟩
    have Pq := hd (Pq.out.below b3)
    have Hvs := hd (Hvs.out.below b3)
    have Hvr := hd (Hvr.out.below b3)
    have k3 := k2.trans (b3.mono k2.size)
    have Hwl := hd hwl
    have Hws := hd hws
    have Hwr := hd hwr
    have hq0 : ¬ (q.length : Int) = 0 := by omega
    clear b3 hwl hws hwr
    go_wp2_with fail
    refine (DiffsOf_yes A1 c1 q _ Pq.out Hb.out).mono ?_
    rintro e w5 ⟨A4, c4, rfl, own4, b4⟩
    rw [fd_length]
    have Pq := hd (Pq.out.below b4)
    have Hvs := hd (Hvs.out.below b4)
    have Hvr := hd (Hvr.out.below b4)
    have Hws := hd (Hws.out.below b4)
    have Hwr := hd (Hwr.out.below b4)
    have Hf := hd own4.si
    have k4 := k3.trans (b4.mono k3.size)
    clear own4 b4
    obtain ⟨bV, oV, hV, -⟩ := Hvs.out.nonempty (by rw [Hvl.out]; exact hpos)
    obtain ⟨bW, oW, hW, -⟩ := Hws.out.nonempty (by rw [Hwl.out]; exact hpos)
    obtain ⟨bF, oF, hF, -⟩ := Hf.out.nonempty (by rw [fd_length]; exact hpos)
    subst hV hW hF
    go_wp2
    go_loopw [7] (fun i wr => ∃ k md : Nat, k ≤ q.length ∧ i = .int .i64 k ∧ wr = w5.drewN md) (fun i _ => q.length - (intOf i).toNat)
    case atStart => exact ⟨0, 0, by omega, rfl, rfl⟩
    case round =>
      obtain ⟨k, md, hk, rfl, rfl⟩ := hrel
      have k5 := below_drewN k4 md
      by_cases hlt : k < q.length
      · obtain ⟨b1, o1, d1, hc1, hs1⟩ := Hvr.out.row Hvs.out Hvl.out hlt
        obtain ⟨b2, o2, d2, hc2, hs2⟩ := Hwr.out.row Hws.out Hwl.out hlt
        obtain ⟨L, HL⟩ : ∃ L, Hid (q.length - k = L) := ⟨_, hd rfl⟩
        rw [HL.out] at hc1 hc2
        have Hnl : Hid ((nbrs k q).length = L) := hd (by rw [nbrs_length, HL.out])
        have hL0 : 0 < L := by have := HL.out; omega
        have hL30 : L ≤ 30 := by have := HL.out; omega
        obtain ⟨x0, hx0⟩ : ∃ x, (nbrs k q)[0]? = some x := ⟨(nbrs k q)[0]'(by rw [Hnl.out]; exact hL0), List.getElem?_eq_getElem _⟩
        have hcx := hs1.cellT hx0
        have hcf := Hf.out.cellT (fd_at q k x0 hx0)
        rw [Nat.add_zero] at hcx
        have S1 := hd hs1
        have S2 := hd hs2
        have e1 : (k : Int) < q.length := by omega
        have e2 : (0 : Int) ≤ k := by omega
        have e3 : IntKind.i64.wrap ((q.length : Int) - k) = (L : Int) := by rw [show (q.length : Int) - k = L by have := HL.out; omega]; exact IntWalk.i64_in _ (by have := HL.out; omega)
        have e4 : (0 : Int) < L := by omega
        have E1 : (x0 != x0) = false := by simp
        have E2 : ((L : Int) != L) = false := by simp
        clear hs1 hs2 hx0
        go_wp2
        go_quiet ((go_at_call 19; exact quiet_more2 (deInts_same L (some ⟨b1, o1, none⟩) (some ⟨b2, o2, none⟩) d1 d2 (nbrs k q) w5 _ Hnl.out S1.out S2.out)))
        go_wp2
        go_loopw [8] (fun i wr => ∃ j md : Nat, j ≤ L ∧ i = .int .i64 j ∧ wr = w5.drewN md) (fun i _ => L - (intOf i).toNat)
        case atStart => exact ⟨0, _, by omega, rfl, by rw [World.drewN_drewN]⟩
        case round =>
          obtain ⟨j, mj, hj, rfl, rfl⟩ := hrel
          by_cases hk0 : 0 < k
          · have e5 : (0 : Int) < k := by omega
            by_cases hjl : j < L
            · obtain ⟨l, Hkl⟩ : ∃ l, Hid (k = l + 1) := ⟨k - 1, hd (by omega)⟩
              have hlq : l < q.length := by have := Hkl.out; omega
              obtain ⟨b3, o3, d3, hc3, hs3⟩ := Hvr.out.row Hvs.out Hvl.out hlq
              obtain ⟨M, HM⟩ : ∃ M, Hid (q.length - l = M) := ⟨_, hd rfl⟩
              rw [HM.out] at hc3
              have Hnm : Hid ((nbrs l q).length = M) := hd (by rw [nbrs_length, HM.out])
              have hML : M = L + 1 := by have h1 := HM.out; have h2 := HL.out; have h3 := Hkl.out; omega
              obtain ⟨y0, hy0⟩ : ∃ x, (nbrs l q)[j]? = some x := ⟨(nbrs l q)[j]'(by rw [Hnm.out]; omega), List.getElem?_eq_getElem _⟩
              obtain ⟨y1, hy1⟩ : ∃ x, (nbrs l q)[j + 1]? = some x := ⟨(nbrs l q)[j + 1]'(by rw [Hnm.out]; omega), List.getElem?_eq_getElem _⟩
              have hz : (nbrs k q)[j]? = some (y1 - y0) := by rw [Hkl.out]; exact nbr_at _ _ _ _ hy0 hy1
              have hb2 := nbrs_2e18 Hb.out hlt _ (List.mem_of_getElem? hz)
              have hcz := S1.out.cellT hz
              have hcy0 := hs3.cellT hy0
              have hcy1 := hs3.cellT hy1
              have f1 : IntKind.i64.wrap ((k : Int) - 1) = (l : Int) := by rw [show (k : Int) - 1 = l by have := Hkl.out; omega]; exact IntWalk.i64_in _ (by omega)
              have f2 : IntKind.i64.wrap ((j : Int) + 1) = (j : Int) + 1 := IntWalk.i64_in _ (by omega)
              have f3 : ((j : Int) + 1).toNat = j + 1 := by omega
              have f4 : (0 : Int) ≤ (j : Int) + 1 := by omega
              have f5 : (j : Int) + 1 < M := by omega
              have f6 : (j : Int) < M := by omega
              have f7 : (j : Int) < L := by omega
              have f8 : (0 : Int) ≤ j := by omega
              have f9 : (0 : Int) ≤ l := by omega
              have f10 : (l : Int) < q.length := by omega
              have f11 : IntKind.i64.wrap (y1 - y0) = y1 - y0 := IntWalk.i64_in _ (by omega)
              have f12 : ((y1 - y0 : Int) != y1 - y0) = false := by simp
              have f13 : j < M := by omega
              have f14 : j + 1 < M := by omega
              clear hy0 hy1 hz hb2 hs3 hML
              go_wp2
              go_quiet (fail)
              go_wp2
              go_roundw
              case rel => exact ⟨j + 1, _, by omega, by go_num, rfl⟩
              case measure => simp [intOf] <;> omega
            · have f7 : ¬ (j : Int) < L := by omega
              go_wp2
              go_roundw
              case rel => exact ⟨k + 1, _, by omega, by go_num, rfl⟩
              case measure => simp [intOf] <;> omega
          · have e5 : ¬ (0 : Int) < k := by omega
            go_wp2
            go_roundw
            case rel => exact ⟨k + 1, _, by omega, by go_num, rfl⟩
            case measure => simp [intOf] <;> omega
      · have e1 : ¬ (k : Int) < q.length := by omega
        obtain ⟨b1, o1, d1, hc1, hs1⟩ := Hvr.out.row Hvs.out Hvl.out hpos
        rw [Nat.sub_zero, Nat.add_zero] at hc1
        have S1 : Hid (SI w5 (some ⟨b1, o1, none⟩) q) := hd hs1
        have e2 : (0 : Int) < q.length := by omega
        clear hs1
        go_wp2_with fail
        refine (deInts_any (some ⟨b1, o1, none⟩) A1 d1 c1 q q (w5.drewN md) S1.out Pq.out).mono ?_
        rintro e w6 ⟨rfl, b6⟩
        have Hq : Hid (decide (q = q) = true) := hd (by simp)
        rw [Hq.out]
        have k6 := k5.trans (b6.mono k5.size)
        clear b6
        go_wp2
        go_ret
        exact ⟨rfl, k6⟩

end Go.Proofs.Ytkmblobfamhoiaa
