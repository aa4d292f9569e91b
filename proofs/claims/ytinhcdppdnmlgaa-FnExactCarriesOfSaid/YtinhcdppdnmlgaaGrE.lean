/- Merged out of the texts EngA EngB EngC. -/
import Derived.Test.YtinhcdppdnmlgaaGrD
/- Contracts of the program's functions on engines: validity, results. -/
namespace Go.Proofs.Ytinhcdppdnmlgaa
open Go.RowKit
set_option maxRecDepth 4000

theorem engV_alike {cs : List ByteArray} {x : ByteArray} (hx : cs[0]? = some x) (h1 : 1 ≤ cs.length) (h7 : cs.length ≤ 7) : engV cs = cs.all fun c => alikeB x c := by
  have hh : cs.headD ByteArray.empty = x := by
    cases cs with
    | nil => simp at hx
    | cons c r => simp at hx; simpa using hx
  have hm : x ∈ cs := List.mem_of_getElem? hx
  rw [Bool.eq_iff_iff, engV_iff, hh, List.all_eq_true]
  constructor
  · rintro ⟨_, h⟩ c hc
    have h2 := h c hc
    have h3 := h x hm
    simp [alikeB, h2.1, h3.1, h2.2]
  · intro h
    refine ⟨⟨h1, h7⟩, fun c hc => ?_⟩
    have := h c hc
    simp only [alikeB, Bool.and_eq_true, decide_eq_true_eq] at this
    exact ⟨this.2.1, this.2.2.symm⟩

/-- No string is too long. -/
def Short (cs : List ByteArray) : Prop := ∀ s ∈ cs, s.size ≤ 1048576

set_option maxHeartbeats 800000 in
theorem EngineValid_any (A : Option Addr) (c : Nat) (cs : List ByteArray) (w : World) (h : SS w A cs) (hs : Short cs) :
    Calls Try.prog 16 #[.agg #[.slice A cs.length c]] w fun e w' => e = .returned (.bool (engV cs)) ∧ Below w.heap.size w w' := by
  have Hh := hd h
  have hl := h.len
  have Hs := hd hs
  clear h hs
  by_cases h1 : 1 ≤ cs.length
  case neg =>
    have Hf : Hid (engV cs = false) := hd (by simp [engV, h1])
    go_enter Try.func16, Try.ntmps16
    go_wp2
    go_ret
    exact ⟨ret_bool Hf.out.symm, (Below.refl _ _).alloc (Nat.le_refl _) _⟩
  by_cases h7 : cs.length ≤ 7
  case neg =>
    have Hf : Hid (engV cs = false) := hd (by simp [engV, h7])
    go_enter Try.func16, Try.ntmps16
    go_wp2
    go_ret
    exact ⟨ret_bool Hf.out.symm, (Below.refl _ _).alloc (Nat.le_refl _) _⟩
  obtain ⟨x, b0, off0, hx, hA, hb0, hc0⟩ := Hh.out.at_ (k := 0) (by omega)
  subst hA
  rw [Nat.add_zero] at hc0
  have Hf := hd (engV_alike hx h1 h7)
  have Hx := hd hx
  have hxs := Hs.out x (List.mem_of_getElem? hx)
  clear hx
  go_enter Try.func16, Try.ntmps16
  go_wp2
  go_loop [18] (fun i => ∃ k : Nat, k ≤ cs.length ∧ i = .int .i64 k ∧ (cs.take k).all (fun c => alikeB x c) = true) (fun i => cs.length - (intOf i).toNat)
  case atStart => exact ⟨0, by omega, rfl, by simp⟩
  case round =>
    obtain ⟨k, hk, rfl, ht⟩ := hrel
    have Ht := hd ht
    clear ht
    by_cases hlt : k < cs.length
    · obtain ⟨y, b, off, hy, he, hb, hc⟩ := Hh.out.at_ hlt
      simp only [Option.some.injEq, Addr.mk.injEq, and_true] at he
      obtain ⟨rfl, rfl⟩ := he
      have Hy := hd hy
      have hys := Hs.out y (List.mem_of_getElem? hy)
      clear hy
      cases hal : alikeB x y
      · have Hal := hd hal
        have Hg : Hid (engV cs = false) := hd (by rw [Hf.out]; exact all_false_of (fun c => alikeB x c) cs k y Hy.out hal)
        clear hal
        go_wp2_with fail
        refine (alike_b x y false _ (by omega) (by omega) Hal.out).mono ?_
        rintro e w' ⟨rfl, rfl⟩
        go_wp2
        go_ret
        exact ⟨ret_bool Hg.out.symm, (Below.refl _ _).alloc (Nat.le_refl _) _⟩
      · have Hal := hd hal
        clear hal
        go_wp2_with fail
        refine (alike_b x y true _ (by omega) (by omega) Hal.out).mono ?_
        rintro e w' ⟨rfl, rfl⟩
        go_wp2
        go_round
        case rel => exact ⟨k + 1, by omega, by go_num, all_take_succ _ _ _ _ Hy.out Ht.out Hal.out⟩
        case measure => simp [intOf]; omega
    · have hke : k = cs.length := by omega
      have Hg : Hid (engV cs = true) := hd (by have := Ht.out; rw [hke, List.take_length] at this; rw [Hf.out]; exact this)
      clear hke
      go_wp2
      go_ret
      exact ⟨ret_bool Hg.out.symm, (Below.refl _ _).alloc (Nat.le_refl _) _⟩

theorem EngineValid_b (n : Nat) (A : Option Addr) (c : Nat) (cs : List ByteArray) (b : Bool) (w : World) (hn : cs.length = n) (h : SS w A cs) (hs : Short cs) (hb : engV cs = b) :
    Calls Try.prog 16 #[.agg #[.slice A n c]] w fun e w' => e = .returned (.bool b) ∧ Below w.heap.size w w' := by
  subst hn hb; exact EngineValid_any A c cs w h hs

theorem short_eng {W : Nat} (h : W ≤ 12) (vs : List Int) : Short (eng W vs) := by
  intro s hs
  obtain ⟨x, _, rfl⟩ := List.mem_map.1 hs
  rw [showC_size]; omega

/-- An engine of the call's own is returned, and a bool; below B nothing has changed. -/
def RetEB (E : TypeId) (B : Nat) (w : World) (cs : List ByteArray) (ok : Bool) (e : Ending) (w' : World) : Prop :=
  ∃ A c, e = .returned (.tuple #[.agg #[.slice A cs.length c], .bool ok]) ∧ OwnS E B w' A c cs ∧ Below B w w'

theorem RetEB.none_ {E : TypeId} {B : Nat} {w w' : World} {cs : List ByteArray} {ok : Bool} (h : cs = []) (hok : ok = false) (hb : Below B w w') : RetEB E B w cs ok (.returned (.tuple #[.agg #[.slice none 0 0], .bool false])) w' := by
  subst h hok; exact ⟨none, 0, rfl, OwnG.nil_ _ _ _ _, hb⟩
theorem RetEB.own {E : TypeId} {B n c : Nat} {A : Option Addr} {w w' : World} {cs : List ByteArray} {ok : Bool} (h : OwnS E B w' A c cs) (hn : n = cs.length) (hok : ok = true) (hb : Below B w w') : RetEB E B w cs ok (.returned (.tuple #[.agg #[.slice A n c], .bool true])) w' := by
  subst hn hok; exact ⟨_, _, rfl, h, hb⟩

/-- What a function that turns engines returns: none for what is no engine. -/
def turnE (f : List Int → List Int) (cs : List ByteArray) : Option (List ByteArray) := if engV cs then some (eng (cs.headD ByteArray.empty).size (f (cs.map cval))) else none

end Go.Proofs.Ytinhcdppdnmlgaa

/- Contracts of the program's functions on engines: turns. -/
namespace Go.Proofs.Ytinhcdppdnmlgaa
open Go.RowKit
set_option maxRecDepth 4000

def hsz (cs : List ByteArray) : Nat := (cs.headD ByteArray.empty).size
def cvs (cs : List ByteArray) : List Int := cs.map cval

theorem engV_vals {cs : List ByteArray} (h : engV cs = true) : cs = eng (hsz cs) (cvs cs) ∧ 1 ≤ hsz cs ∧ hsz cs ≤ 12 ∧ 1 ≤ (cvs cs).length ∧ (cvs cs).length ≤ 7 := by
  obtain ⟨W, vs, he, h1, h2, h3, h4, h5⟩ := engV_some h
  have e1 : hsz cs = W := by
    rw [he]
    cases vs with
    | nil => simp at h3
    | cons v r => simp [hsz, eng, showC_size]
  have e2 : cvs cs = vs := by
    rw [he, cvs, eng, List.map_map]
    have : vs.map (cval ∘ showC W) = vs.map id := List.map_congr_left fun v hv => by
      have := h5 v hv
      simp only [Function.comp, cval_showC, id]
      exact Int.emod_eq_of_lt this.1 this.2
    rw [this, List.map_id]
  rw [e1, e2]
  exact ⟨he, h1, h2, h3, h4⟩

theorem hsz_eng {W : Nat} {vs : List Int} (h : 1 ≤ vs.length) : hsz (eng W vs) = W := by
  cases vs with
  | nil => simp at h
  | cons v r => simp [hsz, eng, showC_size]

/-- The engine whose numbers are turned by f, if it is one. -/
def turnF (f : List Int → List Int) (cs : List ByteArray) : Option (List ByteArray) := if engV cs then some (eng (hsz cs) (f (cvs cs))) else none

theorem turnF_some {f : List Int → List Int} {cs : List ByteArray} (h : engV cs = true) : turnF f cs = some (eng (hsz cs) (f (cvs cs))) := by rw [turnF, if_pos h]
theorem turnF_none {f : List Int → List Int} {cs : List ByteArray} (h : engV cs = false) : turnF f cs = none := by rw [turnF, if_neg (by rw [h]; simp)]

/-- The result of a function that returns an engine or none. -/
def RetEO (E : TypeId) (B : Nat) (w : World) (r : Option (List ByteArray)) (e : Ending) (w' : World) : Prop := RetEB E B w (r.getD []) r.isSome e w'

theorem RetEO.none_ {E : TypeId} {B : Nat} {w w' : World} {r : Option (List ByteArray)} (h : r = none) (hb : Below B w w') : RetEO E B w r (.returned (.tuple #[.agg #[.slice none 0 0], .bool false])) w' := by
  subst h; exact RetEB.none_ rfl rfl hb
theorem RetEO.some_ {E : TypeId} {B n c : Nat} {A : Option Addr} {w w' : World} {r : Option (List ByteArray)} {zs : List ByteArray} (h : r = some zs) (ho : OwnS E B w' A c zs) (hn : n = zs.length) (hb : Below B w w') :
    RetEO E B w r (.returned (.tuple #[.agg #[.slice A n c], .bool true])) w' := by
  subst h; exact RetEB.own ho hn rfl hb

end Go.Proofs.Ytinhcdppdnmlgaa

/- Memory of several cells of a call's own; what functions on engines return. -/
namespace Go.Proofs.Ytinhcdppdnmlgaa
open Go.RowKit
set_option maxRecDepth 4000

theorem Cl.lowB {w w' : World} {g B : Nat} {v : Value} (h : Cl w g v) (b : Below B w w') (hg : g < B) : Cl w' g v := by
  refine ⟨?_, ?_, Nat.lt_of_lt_of_le h.2.2 b.size⟩
  · rw [b.cell (p := ⟨g, 0, none⟩) hg]; exact h.1
  · rw [b.frozen (p := ⟨g, 0, none⟩) hg]; exact h.2.1

/-- Cells of the call's own (block and value), and nothing changed below. -/
def Cs (w w1 : World) (l : List (Nat × Value)) : Prop := Below w.heap.size w w1 ∧ ∀ p ∈ l, Cl w1 p.1 p.2 ∧ w.heap.size ≤ p.1

theorem Cs.nil (w : World) : Cs w w [] := ⟨Below.refl _ _, fun p h => by simp at h⟩
theorem Cs.below {w w1 w2 : World} {l : List (Nat × Value)} (h : Cs w w1 l) (b : Below w1.heap.size w1 w2) : Cs w w2 l :=
  ⟨h.1.trans (b.mono h.1.size), fun p hp => ⟨(h.2 p hp).1.below b, (h.2 p hp).2⟩⟩
theorem Cs.new {w w1 : World} {l : List (Nat × Value)} (h : Cs w w1 l) (v : Value) (T : TypeId) {g : Nat} (hg : w1.heap.size = g) : Cs w (w1.alloc (.cells #[v] T)) ((g, v) :: l) := by
  subst hg
  have h2 := h.below ((Below.refl w1.heap.size w1).alloc (Nat.le_refl _) (.cells #[v] T))
  refine ⟨h2.1, fun p hp => ?_⟩
  rcases List.mem_cons.1 hp with rfl | hp
  · exact ⟨Cl.new w1 v T, h.1.size⟩
  · exact h2.2 p hp
theorem Cs.set {w w1 : World} {l : List (Nat × Value)} {r : Nat} (h : Cs w w1 l) (hr : ∀ p ∈ l, r ≠ p.1) (hB : w.heap.size ≤ r) (k : Nat) (x : Value) : Cs w (w1.setCell ⟨r, k, none⟩ x) l :=
  ⟨h.1.setCell (p := ⟨r, k, none⟩) hB x, fun p hp => ⟨(h.2 p hp).1.other (grown_set w1 ⟨r, k, none⟩ x) (hr p hp), (h.2 p hp).2⟩⟩
theorem Cs.drew {w w1 : World} {l : List (Nat × Value)} (h : Cs w w1 l) : Cs w w1.drew l := ⟨h.1.drew, h.2⟩
theorem Cs.grown {w w1 w2 : World} {l : List (Nat × Value)} {r : Nat} (h : Cs w w1 l) (g : w1.grownBy w2 (some r)) (hr : ∀ p ∈ l, r ≠ p.1) (hB : w.heap.size ≤ r) : Cs w w2 l :=
  ⟨h.1.grown g h.1.size (fun x hx => by simp at hx; omega), fun p hp => ⟨(h.2 p hp).1.other g (hr p hp), (h.2 p hp).2⟩⟩
theorem Cs.put {w w1 : World} {l : List (Nat × Value)} {g : Nat} {v : Value} (h : Cs w w1 ((g, v) :: l)) (hr : ∀ p ∈ l, g ≠ p.1) (x : Value) : Cs w (w1.setCell ⟨g, 0, none⟩ x) ((g, x) :: l) := by
  have h0 := h.2 (g, v) (by simp)
  have ht : Cs w w1 l := ⟨h.1, fun p hp => h.2 p (List.mem_cons_of_mem _ hp)⟩
  have h2 := ht.set (r := g) hr h0.2 0 x
  refine ⟨h2.1, fun p hp => ?_⟩
  rcases List.mem_cons.1 hp with rfl | hp
  · refine ⟨⟨World.cell?_setCell_same' _ _ _ (by rw [h0.1.1]; rfl), by rw [World.frozen?_setCell]; exact h0.1.2.1, ?_⟩, h0.2⟩
    exact Nat.lt_of_lt_of_le h0.1.2.2 (grown_set w1 ⟨g, 0, none⟩ x).size
  · exact h2.2 p hp
theorem Cs.done {w w1 : World} {l : List (Nat × Value)} (h : Cs w w1 l) {g : Nat} (hg : w.heap.size ≤ g) (x : Value) : Below w.heap.size w (w1.setCell ⟨g, 0, none⟩ x) := h.1.setCell (p := ⟨g, 0, none⟩) hg x
theorem Cs.at1 {w w1 : World} {g1 : Nat} {v1 : Value} {l : List (Nat × Value)} (h : Cs w w1 ((g1, v1) :: l)) : w1.cell? ⟨g1, 0, none⟩ = some v1 ∧ w1.frozen? ⟨g1, 0, none⟩ = false ∧ g1 < w1.heap.size := (h.2 (g1, v1) (by simp)).1
theorem Cs.tail {w w1 : World} {g1 : Nat × Value} {l : List (Nat × Value)} (h : Cs w w1 (g1 :: l)) : Cs w w1 l := ⟨h.1, fun p hp => h.2 p (List.mem_cons_of_mem _ hp)⟩
theorem Cs.at2 {w w1 : World} {g1 g2 : Nat} {v1 v2 : Value} {l : List (Nat × Value)} (h : Cs w w1 ((g1, v1) :: (g2, v2) :: l)) :
    (w1.cell? ⟨g1, 0, none⟩ = some v1 ∧ w1.frozen? ⟨g1, 0, none⟩ = false ∧ g1 < w1.heap.size) ∧ (w1.cell? ⟨g2, 0, none⟩ = some v2 ∧ w1.frozen? ⟨g2, 0, none⟩ = false ∧ g2 < w1.heap.size) := ⟨h.at1, h.tail.at1⟩
theorem Cs.at3 {w w1 : World} {g1 g2 g3 : Nat} {v1 v2 v3 : Value} {l : List (Nat × Value)} (h : Cs w w1 ((g1, v1) :: (g2, v2) :: (g3, v3) :: l)) :
    (w1.cell? ⟨g1, 0, none⟩ = some v1 ∧ w1.frozen? ⟨g1, 0, none⟩ = false ∧ g1 < w1.heap.size) ∧ (w1.cell? ⟨g2, 0, none⟩ = some v2 ∧ w1.frozen? ⟨g2, 0, none⟩ = false ∧ g2 < w1.heap.size) ∧
    (w1.cell? ⟨g3, 0, none⟩ = some v3 ∧ w1.frozen? ⟨g3, 0, none⟩ = false ∧ g3 < w1.heap.size) := ⟨h.at1, h.tail.at1, h.tail.tail.at1⟩

theorem Cs.two (w : World) (v v2 : Value) (T T2 : TypeId) : Cs w ((w.alloc (.cells #[v] T)).alloc (.cells #[v2] T2)) [(w.heap.size + 1, v2), (w.heap.size, v)] :=
  ((Cs.nil w).new v T rfl).new v2 T2 (by simp)
theorem Cs.three (w : World) (v v2 v3 : Value) (T T2 T3 : TypeId) : Cs w (((w.alloc (.cells #[v] T)).alloc (.cells #[v2] T2)).alloc (.cells #[v3] T3)) [(w.heap.size + 2, v3), (w.heap.size + 1, v2), (w.heap.size, v)] :=
  (((Cs.nil w).new v T rfl).new v2 T2 (by simp)).new v3 T3 (by simp)

/-- A list of ints and a bool are returned. -/
def RetNB (E : TypeId) (B : Nat) (w : World) (zs : List Int) (ok : Bool) (e : Ending) (w' : World) : Prop :=
  ∃ A c, e = .returned (.tuple #[.slice A zs.length c, .bool ok]) ∧ OwnG (Value.int .i64) E B w' A c zs ∧ Below B w w'
theorem RetNB.of {E : TypeId} {B : Nat} {w : World} {zs : List Int} {ok : Bool} {e : Ending} {w' : World} (h : RetIB E B w zs ok e w') : RetNB E B w zs ok e w' := h

/-! What the functions return. -/

/-- The sum of two engines of the same shape. -/
def addF (cs ds : List ByteArray) : Option (List ByteArray) :=
  if engV cs && (engV ds && (decide (cs.length = ds.length) && decide (hsz cs = hsz ds))) then some (eng (hsz cs) (plusV (cvs cs) (cvs ds))) else none
theorem addF_none {cs ds : List ByteArray} (h : (engV cs && (engV ds && (decide (cs.length = ds.length) && decide (hsz cs = hsz ds)))) = false) : addF cs ds = none := by rw [addF, if_neg (by rw [h]; simp)]
theorem addF_some {cs ds : List ByteArray} (h1 : engV cs = true) (h2 : engV ds = true) (h3 : cs.length = ds.length) (h4 : hsz cs = hsz ds) : addF cs ds = some (eng (hsz cs) (plusV (cvs cs) (cvs ds))) := by
  rw [addF, if_pos (by simp [h1, h2, h3, h4])]

/-- The engine of another width. -/
def widF (cs : List ByteArray) (N : Int) : Option (List ByteArray) := if engV cs then setE ((cvs cs).map (sgn (hsz cs))) N else none

theorem setE_some {vs : List Int} {N : Int} (h1 : 1 ≤ N) (h2 : N ≤ 12) (h : fitsAll vs N.toNat = true) : setE vs N = some (eng N.toNat vs) := by rw [setE, if_pos (by simp [h1, h2, h])]
theorem setE_out {vs : List Int} {N : Int} (h : (decide (1 ≤ N) && decide (N ≤ 12)) = false) : setE vs N = none := by rw [setE, if_neg (by rw [h]; simp)]
theorem setE_bad {vs : List Int} {N : Int} {k : Nat} {x : Int} (hx : vs[k]? = some x) (h : fitsB x N.toNat = false) : setE vs N = none := by
  have : fitsAll vs N.toNat = false := by
    rw [fitsAll, List.all_eq_false]
    exact ⟨x, List.mem_of_getElem? hx, by simp [h]⟩
  rw [setE, if_neg (by rw [this]; simp)]

/-- The column of a width for a number. -/
def colO (n N : Int) : Option ByteArray := if (decide (1 ≤ N) && decide (N ≤ 12)) && fitsB n N.toNat then some (showC N.toNat n) else none

/-- The polynomial that an engine holds. -/
def readF (cs : List ByteArray) : Option (List Int) := if engV cs then chk ((cvs cs).map (sgn (hsz cs))) else none

/-- The results of an engine that is turned by f, one after the other. -/
def iterF (f : List Int → List Int) : Nat → List Int → List Int
  | 0, vs => vs
  | n + 1, vs => iterF f n (f vs)
theorem iterF_succ (f : List Int → List Int) : ∀ (n : Nat) (vs : List Int), iterF f (n + 1) vs = f (iterF f n vs)
  | 0, _ => rfl
  | n + 1, vs => by rw [iterF, iterF_succ f n (f vs)]; rfl
theorem iterF_length {f : List Int → List Int} (h : ∀ vs, (f vs).length = vs.length) : ∀ (n : Nat) (vs : List Int), (iterF f n vs).length = vs.length
  | 0, _ => rfl
  | n + 1, vs => by rw [iterF, iterF_length h n, h]
def runF (f : List Int → List Int) (N : Int) (cs : List ByteArray) : Option (List Int) :=
  if engV cs && (decide (0 ≤ N) && decide (N ≤ 60)) then some (tab N.toNat fun i => sgn (hsz cs) ((iterF f i (cvs cs)).getD 0 0)) else none
theorem runF_none {f : List Int → List Int} {N : Int} {cs : List ByteArray} (h : (engV cs && (decide (0 ≤ N) && decide (N ≤ 60))) = false) : runF f N cs = none := by rw [runF, if_neg (by rw [h]; simp)]
theorem runF_some {f : List Int → List Int} {N : Int} {cs : List ByteArray} (h : engV cs = true) (h0 : 0 ≤ N) (h1 : N ≤ 60) : runF f N cs = some (tab N.toNat fun i => sgn (hsz cs) ((iterF f i (cvs cs)).getD 0 0)) := by
  rw [runF, if_pos (by simp [h, h0, h1])]

end Go.Proofs.Ytinhcdppdnmlgaa
