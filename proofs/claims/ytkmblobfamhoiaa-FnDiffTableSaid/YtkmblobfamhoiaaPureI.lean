/- Plain mathematics: the values of sums and multiples. -/
import Derived.Test.YtkmblobfamhoiaaPolyF
namespace Go.Proofs.Ytkmblobfamhoiaa

theorem tab_snoc (m : Nat) (f : Nat → Int) : tab (m + 1) f = tab m f ++ [f m] := by simp [tab, List.range_succ]

theorem val_tab_succ (m : Nat) (f : Nat → Int) (n : Int) : val (tab (m + 1) f) n = val (tab m f) n + f m * chs n m := by
  rw [tab_snoc, val, valF_snoc, tab_length, Nat.zero_add]; rfl

theorem val_tab_add (f g : Nat → Int) (n : Int) : ∀ m, val (tab m fun k => f k + g k) n = val (tab m f) n + val (tab m g) n
  | 0 => by simp [tab, val, valF]
  | m + 1 => by
    rw [val_tab_succ, val_tab_succ, val_tab_succ, val_tab_add f g n m, Int.add_mul]
    omega

theorem val_pad (p : List Int) (n : Int) : ∀ d, val (tab (p.length + d) fun k => p.getD k 0) n = val p n
  | 0 => by rw [Nat.add_zero, tab_drop_eq]
  | d + 1 => by
    rw [← Nat.add_assoc, val_tab_succ, val_pad p n d, List.getD_eq_getElem?_getD, List.getElem?_eq_none (by omega)]
    simp

theorem val_pad' (p : List Int) (n : Int) {m : Nat} (h : p.length ≤ m) : val (tab m fun k => p.getD k 0) n = val p n := by
  obtain ⟨d, rfl⟩ : ∃ d, m = p.length + d := ⟨m - p.length, by omega⟩
  exact val_pad p n d

theorem addP_some {p q s : List Int} (h : addP p q = some s) : validP p = true ∧ validP q = true ∧ validP s = true ∧ (s = tab (max p.length q.length) fun k => p.getD k 0 + q.getD k 0) ∧ s.length = max p.length q.length ∧ ∀ n, val s n = val p n + val q n := by
  rw [addP] at h
  split at h
  · rename_i hc
    obtain ⟨hs, hv⟩ := chk_some h
    simp at hc
    refine ⟨hc.1, hc.2, hv, hs, by rw [hs, tab_length], fun n => ?_⟩
    rw [hs, val_tab_add, val_pad' p n (by omega), val_pad' q n (by omega)]
  · cases h

theorem add_evl {p q s : List Int} (h : addP p q = some s) (n : Int) (h1 : -200 ≤ n) (h2 : n ≤ 200) : evl s n = evl p n + evl q n := by
  obtain ⟨hp, hq, hs, _, _, hv⟩ := addP_some h
  rw [evl_in hs h1 h2, evl_in hp h1 h2, evl_in hq h1 h2, hv]

theorem valF_neg (n : Int) : ∀ (q : List Int) (j : Nat), valF j (q.map (· * -1)) n = -valF j q n
  | [], _ => by simp [valF]
  | d :: r, j => by
    have h := valF_neg n r (j + 1)
    simp only [List.map_cons, valF] at h ⊢
    rw [h, Int.mul_neg, Int.mul_one, Int.neg_mul]
    omega

theorem neg_some {q : List Int} (hq : validP q = true) : ∃ t, scaleP q (-1) = some t ∧ validP t = true ∧ t = q.map (· * -1) ∧ t.length = q.length := by
  obtain ⟨h1, h7, hx⟩ := validP_iff.1 hq
  have hv : validP (q.map (· * -1)) = true := by
    refine validP_iff.2 ⟨by simpa using h1, by simpa using h7, fun x hm => ?_⟩
    obtain ⟨y, hy, rfl⟩ := List.mem_map.1 hm
    have := hx y hy
    omega
  refine ⟨_, ?_, hv, rfl, by simp⟩
  rw [scaleP, hq]
  simp only [inB]
  exact chk_of hv

theorem neg_evl {q t : List Int} (hq : validP q = true) (hv : validP t = true) (ht : t = q.map (· * -1)) (n : Int) (h1 : -200 ≤ n) (h2 : n ≤ 200) : evl t n = -evl q n := by
  rw [evl_in hv h1 h2, evl_in hq h1 h2, ht]
  exact valF_neg n q 0

theorem neg_getD (q : List Int) (k : Nat) : (q.map (· * -1)).getD k 0 = -(q.getD k 0) := by
  rw [List.getD_eq_getElem?_getD, List.getD_eq_getElem?_getD, List.getElem?_map]
  cases q[k]? <;> simp

theorem tab_getD {m : Nat} (f : Nat → Int) {k : Nat} (hk : k < m) : (tab m f).getD k 0 = f k := by
  rw [List.getD_eq_getElem?_getD, tab_at _ hk]; rfl

theorem add_back {p q s t : List Int} (h : addP p q = some s) (ht : t = q.map (· * -1)) (hv : validP t = true) : addP s t = some (tab s.length fun k => p.getD k 0) := by
  obtain ⟨hp, hq, hs, he, hl, _⟩ := addP_some h
  obtain ⟨hp1, hp7, hpx⟩ := validP_iff.1 hp
  obtain ⟨hs1, hs7, _⟩ := validP_iff.1 hs
  have htl : t.length = q.length := by rw [ht]; simp
  have e : (tab (max s.length t.length) fun k => s.getD k 0 + t.getD k 0) = tab s.length fun k => p.getD k 0 := by
    rw [show max s.length t.length = s.length by omega]
    refine tab_ext fun k hk => ?_
    rw [ht, neg_getD, he, tab_getD _ (by omega)]
    omega
  rw [addP, hs, hv, e]
  refine (if_pos rfl).trans (chk_of (validP_iff.2 ⟨by rw [tab_length]; exact hs1, by rw [tab_length]; exact hs7, fun x hx => ?_⟩))
  obtain ⟨i, hi, rfl⟩ := tab_mem hx
  by_cases hkp : i < p.length
  · rw [getD_of (List.getElem?_eq_getElem hkp)]; exact hpx _ (List.getElem_mem hkp)
  · rw [List.getD_eq_getElem?_getD, List.getElem?_eq_none (by omega)]; simp

theorem trimN_congr {p q : List Int} : ∀ n, (∀ m, m < n → p[m]? = q[m]?) → trimN p n = trimN q n
  | 0, _ => rfl
  | m + 1, h => by rw [trimN, trimN, h m (by omega), trimN_congr m fun k hk => h k (by omega)]

theorem pad_at (p : List Int) {M k : Nat} (hk : k < p.length) (hM : p.length ≤ M) : (tab M fun k => p.getD k 0)[k]? = p[k]? := by
  rw [tab_at _ (by omega), List.getD_eq_getElem?_getD, List.getElem?_eq_getElem hk]; rfl

theorem trimN_pad (p : List Int) (h1 : 0 < p.length) (M : Nat) : ∀ d, p.length + d ≤ M → trimN (tab M fun k => p.getD k 0) (p.length + d) = trimN p p.length
  | 0, h => trimN_congr _ fun m hm => pad_at p hm (by omega)
  | d + 1, h => by
    rw [← Nat.add_assoc, trimN_go (by omega), trimN_pad p h1 M d (by omega)]
    rw [tab_at _ (by omega), List.getD_eq_getElem?_getD, List.getElem?_eq_none (by omega)]; rfl

theorem trim_pad {p : List Int} (hp : validP p = true) {M : Nat} (hM : p.length ≤ M) (hv : validP (tab M fun k => p.getD k 0) = true) : trimP (tab M fun k => p.getD k 0) = trimP p := by
  have h1 := (validP_iff.1 hp).1
  have ht := trimN_pad p h1 M (M - p.length) (by omega)
  rw [show p.length + (M - p.length) = M by omega] at ht
  rw [trimP, trimP, if_pos hv, if_pos hp, tab_length, ht]
  have hle := trimN_le p p.length
  refine List.ext_getElem? fun k => ?_
  by_cases hk : k < trimN p p.length
  · rw [List.getElem?_take_of_lt hk, List.getElem?_take_of_lt hk, pad_at p (by omega) hM]
  · rw [List.getElem?_take_eq_none (by omega), List.getElem?_take_eq_none (by omega)]

end Go.Proofs.Ytkmblobfamhoiaa
