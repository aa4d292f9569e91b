/- Texts of numbers: what FormatPoly returns, on both sides. -/
import Derived.Test.YtinhcdppdnmlgaaDoorTxP
import Derived.Test.YtinhcdppdnmlgaaDoorGrF
import Derived.Test.YtinhcdppdnmlgaaDoorShelf
import Derived.Lib.ItoaLen
import Derived.Lib.ItoaMem
namespace Go.Proofs.YtinhcdppdnmlgaaDoor
open Go.RowKit
set_option maxRecDepth 4000

/-- The numeral of n. -/
def numB (n : Int) : ByteArray := txt (Lib.itoa n)
theorem numB_size (n : Int) (h0 : -9223372036854775808 ≤ n) (h1 : n ≤ 9223372036854775807) : (numB n).size ≤ 21 := by
  rw [numB, txt_size]; exact Lib.itoa_length_le n h0 h1
theorem numB_nat (u : Nat) : numB (u : Int) = txt (Lib.decDigits u) := by rw [numB, Lib.itoa_nonneg]
theorem numB_neg (u : Nat) (h : 1 ≤ u) : numB (-(u : Int)) = ⟨#[45]⟩ ++ numB (u : Int) := by
  rw [numB, Lib.itoa_neg u h, numB_nat, show (⟨#[45]⟩ : ByteArray) = txt [45] from rfl, txt_app]; rfl
theorem dec_big {q : Nat} (h : 9 < q) : Lib.decDigits q = Lib.decDigits (q / 10) ++ [UInt8.ofNat (48 + q % 10)] := by
  rw [Lib.decDigits, dif_neg (by omega)]

/-- 'string([]byte{x})'. -/
theorem run_byte (w : World) (x : Nat) (hx : x < 256) :
    (convert 28 9 (.slice (some ⟨w.heap.size, 0, none⟩) 1 1)).run Tryd.prog (w.alloc (.cells #[.int .u8 (x : Int)] 5)) = .ok (.string (txt [UInt8.ofNat x])) (w.alloc (.cells #[.int .u8 (x : Int)] 5)) := by
  have hn := new_cell w (.int .u8 (x : Int)) 5
  have := run_convert_bytes_back (P := Tryd.prog) (w.alloc (.cells #[.int .u8 (x : Int)] 5)) 28 9 5 ⟨w.heap.size, 0, none⟩ 1 [UInt8.ofNat x] Tryd.underlying28 Tryd.underlying5 Tryd.underlying9 (fun j hj => by
    have hj0 : j = 0 := by simp at hj; omega
    subst hj0
    have hadd : (⟨w.heap.size, 0, none⟩ : Addr).add 0 = ⟨w.heap.size, 0, none⟩ := by unfold Addr.add; split <;> simp_all
    rw [hadd, hn]
    simp
    omega)
  simpa [txt] using this

/-- The loop of the numeral's digits: what is left, the text so far, and that they make up the numeral. -/
def DecR (u : Nat) (w : World) (n o : Value) (wr : World) : Prop := ∃ (q : Nat) (t : ByteArray), n = .int .i64 q ∧ o = .string t ∧ txt (Lib.decDigits q) ++ t = txt (Lib.decDigits u) ∧ q ≤ u ∧ Below w.heap.size w wr

set_option maxHeartbeats 1600000 in
theorem l9Dec_nat (u : Nat) (w : World) (hu : u ≤ 1000000000000000000) :
    Calls Tryd.prog 49 #[.int .i64 u] w fun e w' => e = .returned (.string (numB u)) ∧ Below w.heap.size w w' := by
  have H0 : Hid (DecR u w (.int .i64 u) (.string ⟨#[]⟩) w) := hd ⟨u, _, rfl, rfl, by apply ByteArray.ext; simp, Nat.le_refl _, Below.refl _ _⟩
  have Hu := hd (numB_nat u)
  have h1 : ¬ (u : Int) < -9223372036854775807 := by omega
  have h2 : ¬ (u : Int) < 0 := by omega
  go_enter Tryd.func49, Tryd.ntmps49
  go_wp2
  go_loopw [0, 3] (fun n o wr => DecR u w n o wr) (fun n _ _ => (intOf n).toNat)
  case atStart => exact H0.out
  case round =>
    clear H0
    obtain ⟨q, t, rfl, rfl, ht, hq, hb⟩ := hrel
    have Ht := hd ht
    have Hb := hd hb
    have htl : t.size ≤ 21 := by
      have h3 := congrArg ByteArray.size ht
      rw [ByteArray.size_append, txt_size, txt_size] at h3
      have h4 := numB_size (u : Int) (by omega) (by omega)
      rw [numB_nat, txt_size] at h4
      omega
    clear ht hb
    by_cases hq9 : 9 < q
    · have g1 : (9 : Int) < q := by omega
      have e1 : IntKind.u8.wrap (48 + (q : Int) % 10) = 48 + (q : Int) % 10 := by
        simp only [IntKind.wrap, IntKind.bits, IntKind.signed]
        simp
        omega
      have qS := run_byte wr (48 + q % 10) (by omega)
      rw [show ((48 + q % 10 : Nat) : Int) = 48 + (q : Int) % 10 by omega] at qS
      have hsz : (txt [UInt8.ofNat (48 + q % 10)]).size ≤ 1 := by rw [txt_size]; simp
      have Hn : Hid (txt (Lib.decDigits (q / 10)) ++ (txt [UInt8.ofNat (48 + q % 10)] ++ t) = txt (Lib.decDigits u)) := hd (by
        rw [← Ht.out, dec_big hq9, ← txt_app, ByteArray.append_assoc])
      obtain ⟨X, HX⟩ : ∃ X, Hid (txt [UInt8.ofNat (48 + q % 10)] = X) := ⟨_, hd rfl⟩
      rw [HX.out] at qS hsz Hn
      clear HX
      go_wp2
      go_roundw
      case rel => exact ⟨q / 10, X ++ t, by go_num, rfl, Hn.out, by omega, Hb.out.alloc Hb.out.size _⟩
      case measure => simp [intOf] <;> omega
    · have g1 : ¬ (9 : Int) < q := by omega
      have e1 : IntKind.u8.wrap (48 + (q : Int)) = 48 + (q : Int) := by
        simp only [IntKind.wrap, IntKind.bits, IntKind.signed]
        simp
        omega
      have qS := run_byte wr (48 + q) (by omega)
      rw [show ((48 + q : Nat) : Int) = 48 + (q : Int) by omega] at qS
      have hsz : (txt [UInt8.ofNat (48 + q)]).size ≤ 1 := by rw [txt_size]; simp
      have Hn : Hid (txt [UInt8.ofNat (48 + q)] ++ t = numB u) := hd (by rw [Hu.out, ← Ht.out, Lib.decDigits_one (show q < 10 by omega)])
      obtain ⟨X, HX⟩ : ∃ X, Hid (txt [UInt8.ofNat (48 + q)] = X) := ⟨_, hd rfl⟩
      rw [HX.out] at qS hsz Hn
      clear HX
      go_wp2
      go_ret
      exact ⟨ret_str Hn.out, Hb.out.alloc Hb.out.size _⟩

theorem l9Dec_any (n : Int) (w : World) (h0 : -1000000000000000000 ≤ n) (h1 : n ≤ 1000000000000000000) :
    Calls Tryd.prog 49 #[.int .i64 n] w fun e w' => e = .returned (.string (numB n)) ∧ Below w.heap.size w w' := by
  rcases Int.lt_or_le n 0 with hn | hn
  · obtain ⟨u, hu⟩ : ∃ u : Nat, n = -(u : Int) := ⟨n.natAbs, by omega⟩
    subst hu
    have hu1 : 1 ≤ u := by omega
    have Hz : Hid ((⟨#[45]⟩ : ByteArray) ++ numB u = numB (-(u : Int))) := hd (numB_neg u hu1).symm
    have hsz : (numB (u : Int)).size ≤ 21 := numB_size _ (by omega) (by omega)
    obtain ⟨X, HX⟩ : ∃ X, Hid (numB (u : Int) = X) := ⟨_, hd rfl⟩
    rw [HX.out] at hsz Hz
    have hu2 : (u : Int) ≤ 1000000000000000000 := by omega
    have hu3 : (0 : Int) < u := by omega
    have hX1 : Calls Tryd.prog 49 #[.int .i64 (- -(u : Int))] w fun e w' => e = .returned (.string X) ∧ Below w.heap.size w w' := by
      have := l9Dec_nat u w (by omega)
      rw [Int.neg_neg, ← HX.out]
      exact this
    rw [Int.neg_neg] at hX1
    have HC := hd hX1
    clear hX1
    go_enter Tryd.func49, Tryd.ntmps49
    go_wp2_with fail
    refine HC.out.mono ?_
    rintro e w1 ⟨rfl, b1⟩
    go_wp2
    go_ret
    exact ⟨ret_str Hz.out, b1⟩
  · obtain ⟨u, hu⟩ : ∃ u : Nat, n = (u : Int) := ⟨n.toNat, by omega⟩
    subst hu
    exact l9Dec_nat u w (by omega)

/-- The texts of numbers, with blanks between them. -/
def numsB (p : List Int) : ByteArray := joinB (p.map numB)
theorem numsB_one {p : List Int} {x : Int} (h : p[0]? = some x) : numsB (p.take 1) = ⟨#[]⟩ ++ numB x := by
  rw [numsB, List.map_take, joinB_one (x := numB x) (by rw [List.getElem?_map, h]; rfl)]
theorem numsB_succ {p : List Int} {x : Int} {k : Nat} (h : p[k]? = some x) (hk : 1 ≤ k) : numsB (p.take (k + 1)) = numsB (p.take k) ++ ⟨#[32]⟩ ++ numB x := by
  rw [numsB, List.map_take, joinB_succ (x := numB x) (by rw [List.getElem?_map, h]; rfl) hk, numsB, List.map_take]
def Mid (p : List Int) : Prop := ∀ x ∈ p, -1000000000000000000 ≤ x ∧ x ≤ 1000000000000000000
theorem numsB_size {p : List Int} (h : Mid p) : (numsB p).size ≤ 22 * p.length := by
  have := joinB_sizeM 21 (cs := p.map numB) (fun c hc => by
    obtain ⟨x, hx, rfl⟩ := List.mem_map.1 hc
    have := h x hx
    exact numB_size x (by omega) (by omega))
  rwa [List.length_map] at this

/-- The loop's text, its counter, and that nothing is changed below. -/
def TnR (p : List Int) (w : World) (o i : Value) (wr : World) : Prop := ∃ (k : Nat) (t : ByteArray), k ≤ p.length ∧ i = .int .i64 k ∧ o = .string t ∧ t = numsB (p.take k) ∧ Below w.heap.size w wr

set_option maxHeartbeats 1600000 in
theorem l2Text_any (A : Option Addr) (c n : Nat) (p : List Int) (w : World) (hn : p.length = n) (h : SG (Value.int .i64) w A p) (hl : n ≤ 1000) (hm : Mid p) :
    Calls Tryd.prog 32 #[.slice A n c] w fun e w' => e = .returned (.string (numsB p)) ∧ Below w.heap.size w w' := by
  subst hn
  have Hh := hd h
  have Hm := hd hm
  have H0 : Hid (TnR p w (.string ⟨#[]⟩) (.int .i64 0) w) := hd ⟨0, _, by omega, rfl, rfl, by rw [List.take_zero]; rfl, Below.refl _ _⟩
  clear h hm
  by_cases hnz : 0 < p.length
  case neg =>
    have Hf : Hid ((⟨#[]⟩ : ByteArray) = numsB p) := hd (by rw [List.eq_nil_of_length_eq_zero (by omega : p.length = 0)]; rfl)
    have hz : p.length = 0 := by omega
    have hz' : (p.length : Int) = 0 := by omega
    go_enter Tryd.func32, Tryd.ntmps32
    go_wp2
    go_loopw [3, 4] (fun o i wr => o = .string ⟨#[]⟩ ∧ i = .int .i64 0 ∧ w = wr) (fun _ i _ => 1 - (intOf i).toNat)
    case atStart => exact ⟨rfl, rfl, rfl⟩
    case round =>
      obtain ⟨rfl, rfl, rfl⟩ := hrel
      go_wp2
      go_ret
      exact ⟨ret_str Hf.out, Below.refl _ _⟩
  obtain ⟨b0, off0, hA, hlt0⟩ := Hh.out.nonempty hnz
  subst hA
  go_enter Tryd.func32, Tryd.ntmps32
  go_wp2
  go_loopw [3, 4] (fun o i wr => TnR p w o i wr) (fun _ i _ => p.length - (intOf i).toNat)
  case atStart => exact H0.out
  case round =>
    clear H0
    obtain ⟨k, t, hk, rfl, rfl, ht, hb⟩ := hrel
    have Ht := hd ht
    have Hb := hd hb
    have H1 := hd (Hh.out.below hb)
    have htz : t.size ≤ 22000 := by
      have h1 := numsB_size (p := p.take k) (fun c hc => Hm.out c (List.mem_of_mem_take hc))
      rw [← ht, List.length_take] at h1
      omega
    clear ht hb
    by_cases hlt : k < p.length
    · obtain ⟨x, hx⟩ : ∃ x, p[k]? = some x := ⟨p[k], List.getElem?_eq_getElem hlt⟩
      have Hx := hd hx
      obtain ⟨hx1, hx2⟩ := Hm.out x (List.mem_of_getElem? hx)
      have hxz : (numB x).size ≤ 21 := numB_size x (by omega) (by omega)
      clear hx
      have hcx := (H1.out.cellT Hx.out).1
      have HD := hd (fun w => l9Dec_any x w hx1 hx2)
      by_cases hk0 : 0 < k
      · have hg : (0 : Int) < k := by omega
        have hs1 : (t ++ ⟨#[32]⟩ : ByteArray).size ≤ 22001 := by rw [ByteArray.size_append]; show t.size + 1 ≤ _; omega
        have Hn : Hid (t ++ ⟨#[32]⟩ ++ numB x = numsB (p.take (k + 1))) := hd (by rw [numsB_succ Hx.out hk0, ← Ht.out])
        obtain ⟨X, HX⟩ : ∃ X, Hid (numB x = X) := ⟨_, hd rfl⟩
        rw [HX.out] at hxz Hn HD
        go_wp2_with fail
        refine (HD.out _).mono ?_
        rintro e w1 ⟨rfl, b1⟩
        have Hb1 := hd (Hb.out.trans (b1.mono Hb.out.size))
        clear b1
        go_wp2
        go_roundw
        case rel => exact ⟨k + 1, _, by omega, by go_num, rfl, Hn.out, Hb1.out⟩
        case measure => simp [intOf] <;> omega
      · obtain rfl : k = 0 := by omega
        rw [Nat.add_zero] at hcx
        have Hn : Hid (t ++ numB x = numsB (p.take 1)) := hd (by rw [numsB_one Hx.out, Ht.out]; rfl)
        obtain ⟨X, HX⟩ : ∃ X, Hid (numB x = X) := ⟨_, hd rfl⟩
        rw [HX.out] at hxz Hn HD
        go_wp2_with fail
        refine (HD.out _).mono ?_
        rintro e w1 ⟨rfl, b1⟩
        have Hb1 := hd (Hb.out.trans (b1.mono Hb.out.size))
        clear b1
        go_wp2
        go_roundw
        case rel => exact ⟨1, _, by omega, by go_num, rfl, Hn.out, Hb1.out⟩
        case measure => simp [intOf] <;> omega
    · have Hd : Hid (t = numsB p) := hd (by rw [Ht.out, List.take_of_length_le (by omega)])
      go_wp2
      go_ret
      exact ⟨ret_str Hd.out, Hb.out⟩

/-- What FormatPoly returns. -/
def fmtP (p : List Int) : ByteArray := if validP p = true then numsB p else ⟨#[]⟩
theorem fmtP_no {p : List Int} (h : validP p = false) : fmtP p = ⟨#[]⟩ := by simp [fmtP, h]
theorem fmtP_yes {p : List Int} (h : validP p = true) : fmtP p = numsB p := by simp [fmtP, h]

end Go.Proofs.YtinhcdppdnmlgaaDoor
