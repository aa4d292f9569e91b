/- Contracts of the reference's functions that sum polynomials. -/
import Derived.Test.YthoodhdcmckkpaaSpecC
namespace Go.Proofs.Ythoodhdcmckkpaa
open Go.RowKit

/-- append of a list that reads as numbers, be it nil, empty or not, onto a list of the call's own. -/
theorem wpList_appS {P : Program} {w : World} {ops : Array Oper} {rest : List Oper} {o : Oper} {a : Act} {Q : Exit → Act → World → Prop} (hg : o.guard = none) (s x : Operand) (t E : TypeId)
    (ho : o.op = .call { callee := .builtin .append, args := #[s, x], argTypes := #[t, t] })
    (B : Nat) (i : TypeInfo) (ht : P.underlying t = some (.slice E)) (hi : P.info? E = some i) (hz : i.zero = some (.int .i64 0)) (h1 : i.size = 1) (h8 : i.bytes = 8)
    (n m : Nat) (A A' : Option Addr) (c c' : Nat) (zs ys : List Int) (hs : a.eval s = .slice A n c) (hx : a.eval x = .slice A' m c') (hn : zs.length = n) (hm : ys.length = m)
    (hown : OwnI E B w A c zs) (hys : SI w A' ys) (hlen : n + m < 1000000) (hB : B ≤ w.heap.size) (hpos : 0 < n)
    (h : ∀ A2 c2 w', OwnI E B w' A2 c2 (zs ++ ys) → Below B w w' → wpList P ops Q rest (a.put o.dst (.slice A2 (n + m) c2)) w') :
    wpList P ops Q (o :: rest) a w := by
  subst hn hm
  cases ys with
  | nil =>
    refine wpList_plain hg fun _ hK => ?_
    have hrun : (Builtin.append_ #[t, t] o.type #[.slice A zs.length c, .slice A' 0 c']).run P w = .ok (.slice A zs.length c) w := by
      rcases hown.2.2 with ⟨h0, h0'⟩ | ⟨g, cap, cur, hv, _, _, hnc, _⟩
      · omega
      · simp only [Value.slice.injEq] at hv
        obtain ⟨rfl, _, rfl⟩ := hv
        cases A' with
        | none => simp [Builtin.append_, run_underlying ht, sizeOf, typeInfo, hi, Builtin.lenOf, Builtin.firstCells, hnc, storeCells]
        | some ad => simp [Builtin.append_, run_underlying ht, sizeOf, typeInfo, hi, Builtin.lenOf, Builtin.firstCells, loadCells, loadCellsFrom, hnc, storeCells]
    unfold Oper.wp execOp
    simp only [ho, resolve, invoke, builtin, Sem.run_bind, Sem.run_pure, Result.andThen_ok, List.map_toArray, List.map_cons, List.map_nil, hs, hx, List.length_nil, hrun]
    exact hK _ _ (h A c w (by simpa using hown) (Below.refl _ _))
  | cons y ys =>
    obtain ⟨b, off, rfl, hb⟩ := hys.nonempty (by simp)
    refine wpList_append_own _ hg s x t ho B E i (.int .i64 0) 1 8 ht hi hz h1 h8 rfl (by decide) (.slice A zs.length c) zs.length (zs.map (Value.int .i64)) hs hown.2 ⟨b, off, none⟩ (y :: ys).length c' ((y :: ys).map (Value.int .i64)) hx (by simp) (hys.cells rfl) (ints_one _) (by unfold maxLen; omega) (by omega) hB ?_
    intro v' w' ho' hgr hnil
    have hlt := hown.2.lt
    have hbel : Below B w w' := (Below.refl _ _).grown hgr hB (fun k hk => (hlt k hk).1)
    rcases ho'.2 with ⟨_, h0⟩ | ⟨g, cap, cur, hv, h2⟩
    · omega
    · subst hv
      refine h _ _ _ ⟨by simp at hlen ⊢; omega, ?_⟩ hbel
      rw [List.length_append, List.map_append]
      exact ho'

set_option maxHeartbeats 400000 in
theorem sSumPoly_any (A : Option Addr) (cp : Nat) (p : List Int) (c : Int) (w : World) (h : SI w A p) (hl : p.length ≤ 1000) :
    Calls Try.prog 21 #[.slice A p.length cp, .int .i64 c] w fun e w' => RetO 3 w.heap.size w (sumP p c) e w' := by
  obtain ⟨i0, hi, hz0, hz1, hz2⟩ := info_parts infoI
  have Hlit : Hid (OwnI 3 w.heap.size (w.alloc (.cells #[.int .i64 c] 3)) (some ⟨w.heap.size, 0, none⟩) 1 [c]) := hd
    ⟨by simp, World.ownsRow_lit (base := w.heap.size) (e := 3) (size := 1) w #[.int .i64 c] 1 (Nat.le_refl _) (by simp [maxLen]) rfl⟩
  have Hs := hd (h.alloc (.cells #[.int .i64 c] 3))
  have Hh := hd h
  clear h
  have Hlc : Hid ((c :: p).length = 1 + p.length) := hd (by simp; omega)
  cases hv : validP p
  · have Hf : Hid (sumP p c = none) := hd (by simp [sumP, hv])
    go_enter Try.func21, Try.ntmps21
    go_wp2_with (first
      | (at_builtin; refine wpList_appS rfl _ _ 23 3 rfl w.heap.size i0 Try.underlying23 hi hz0 hz1 hz2 1 p.length _ A 1 cp [c] p rfl rfl rfl rfl Hlit.out Hs.out (by omega) (by simp) (by decide) ?_; intro A2 c2 w2 hown2 hbel2; have K2 := hd (((Below.refl w.heap.size w).alloc (Nat.le_refl _) (.cells #[.int .i64 c] 3)).trans hbel2); clear hbel2)
      | (go_at_call 76; refine (sPolyValid_any A cp p _ (Hh.out.below K2.out)).mono ?_; rintro e w' ⟨rfl, rfl⟩))
    go_ret2
    exact RetO.lit Hf.out K2.out
  cases hv2 : validP (c :: p)
  · have Hf : Hid (sumP p c = none) := hd (by simp [sumP, chk, hv, hv2])
    go_enter Try.func21, Try.ntmps21
    go_wp2_with (at_builtin; refine wpList_appS rfl _ _ 23 3 rfl w.heap.size i0 Try.underlying23 hi hz0 hz1 hz2 1 p.length _ A 1 cp [c] p rfl rfl rfl rfl Hlit.out Hs.out (by omega) (by simp) (by decide) ?_; intro A2 c2 w2 hown2 hbel2)
    have K2 := hd (((Below.refl w.heap.size w).alloc (Nat.le_refl _) (.cells #[.int .i64 c] 3)).trans hbel2)
    have S2 := hd hown2.si
    clear hbel2 hown2
    refine (sPolyValid_any A cp p _ (Hh.out.below K2.out)).mono ?_
    rintro e w' ⟨rfl, rfl⟩
    go_wp2_with fail
    refine (sPolyValid_n _ A2 c2 (c :: p) _ Hlc.out S2.out).mono ?_
    rintro e w' ⟨rfl, rfl⟩
    go_wp2
    go_ret2
    exact RetO.lit Hf.out K2.out
  · have Hf : Hid (sumP p c = some (c :: p)) := hd (by simp [sumP, chk, hv, hv2])
    go_enter Try.func21, Try.ntmps21
    go_wp2_with (at_builtin; refine wpList_appS rfl _ _ 23 3 rfl w.heap.size i0 Try.underlying23 hi hz0 hz1 hz2 1 p.length _ A 1 cp [c] p rfl rfl rfl rfl Hlit.out Hs.out (by omega) (by simp) (by decide) ?_; intro A2 c2 w2 hown2 hbel2)
    have K2 := hd (((Below.refl w.heap.size w).alloc (Nat.le_refl _) (.cells #[.int .i64 c] 3)).trans hbel2)
    have S2 := hd hown2
    clear hbel2 hown2
    refine (sPolyValid_any A cp p _ (Hh.out.below K2.out)).mono ?_
    rintro e w' ⟨rfl, rfl⟩
    go_wp2_with fail
    refine (sPolyValid_n _ A2 c2 (c :: p) _ Hlc.out S2.out.si).mono ?_
    rintro e w' ⟨rfl, rfl⟩
    go_wp2
    go_ret2
    exact RetO.some_ Hf.out S2.out Hlc.out.symm K2.out

end Go.Proofs.Ythoodhdcmckkpaa
