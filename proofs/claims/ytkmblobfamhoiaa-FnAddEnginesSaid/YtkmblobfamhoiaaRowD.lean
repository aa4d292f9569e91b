/- The ranks of this translation's functions, and the look at each of them. -/
import Derived.Test.YtkmblobfamhoiaaRowC
namespace Go.Proofs.Ytkmblobfamhoiaa

def rks : List Nat := [1000, 1000, 1000, 6, 1000, 1000, 8, 7, 6, 6, 1000, 1000, 6, 1000, 6, 5, 3, 4, 3, 0, 1, 5, 1, 1000, 0, 1, 2, 0, 0, 5, 1000, 4, 4, 4, 0, 7, 7, 5, 6, 5, 3, 1, 3, 3, 5, 5, 4, 5, 4, 5, 4, 4, 4, 4, 3, 6, 6, 5, 4, 4, 3, 2, 5, 5, 5, 4, 4, 2, 0, 0, 0, 3, 1, 0, 4, 1, 3, 0, 1000, 0, 1, 4, 6, 0, 3, 0, 1, 0, 3, 3, 2, 6, 4, 1, 0, 5, 0, 4, 2, 2, 0, 0, 0, 0, 1, 3, 4, 3, 4, 3, 3, 2, 1, 3, 1, 2, 2, 1, 3, 3, 0, 4, 0, 3, 1, 4, 2, 1, 2, 3, 1, 2, 0, 0, 0, 0, 3, 5, 5, 2, 1, 2, 2, 4, 3, 2, 1, 2, 2, 1, 4, 1, 0, 2, 1, 1, 0]
def rk (g : Nat) : Nat := rks.getD g 1000

def LookAt (a n : Nat) : Prop := ((List.range' a n).all fun g => !(decide (rk g < 1000)) || (Try.prog.funcs[g]?).all (okFn Try.prog rk g)) = true
theorem look0 : LookAt 0 12 := by unfold LookAt; kernel_rfl
theorem look1 : LookAt 12 12 := by unfold LookAt; kernel_rfl
theorem look2 : LookAt 24 12 := by unfold LookAt; kernel_rfl
theorem look3 : LookAt 36 12 := by unfold LookAt; kernel_rfl
theorem look4 : LookAt 48 12 := by unfold LookAt; kernel_rfl
theorem look5 : LookAt 60 12 := by unfold LookAt; kernel_rfl
theorem look6 : LookAt 72 12 := by unfold LookAt; kernel_rfl
theorem look7 : LookAt 84 12 := by unfold LookAt; kernel_rfl
theorem look8 : LookAt 96 12 := by unfold LookAt; kernel_rfl
theorem look9 : LookAt 108 12 := by unfold LookAt; kernel_rfl
theorem look10 : LookAt 120 12 := by unfold LookAt; kernel_rfl
theorem look11 : LookAt 132 12 := by unfold LookAt; kernel_rfl
theorem look12 : LookAt 144 12 := by unfold LookAt; kernel_rfl
theorem look13 : LookAt 156 1 := by unfold LookAt; kernel_rfl

theorem look_of {a n g : Nat} {fn : Func} (h : LookAt a n) (hf : Try.prog.funcs[g]? = some fn) (hr : rk g < 1000) (h1 : a ≤ g) (h2 : g < a + n) : okFn Try.prog rk g fn = true := by
  unfold LookAt at h
  rw [List.all_eq_true] at h
  have := h g (List.mem_range'_1.2 ⟨h1, h2⟩)
  simpa [hf, hr] using this

theorem rk_top {g : Nat} (h : rk g < 1000) : g < 157 := by
  rcases Nat.lt_or_ge g 157 with h1 | h1
  · exact h1
  · exfalso
    unfold rk at h
    rw [List.getD_eq_getElem?_getD, List.getElem?_eq_none (by exact h1)] at h
    simp at h

theorem plain : Plain Try.prog rk 1000 := ⟨fun g fn hf hr => by
  have hg := rk_top hr
  by_cases c0 : g < 12
  · exact look_of look0 hf hr (by omega) (by omega)
  by_cases c1 : g < 24
  · exact look_of look1 hf hr (by omega) (by omega)
  by_cases c2 : g < 36
  · exact look_of look2 hf hr (by omega) (by omega)
  by_cases c3 : g < 48
  · exact look_of look3 hf hr (by omega) (by omega)
  by_cases c4 : g < 60
  · exact look_of look4 hf hr (by omega) (by omega)
  by_cases c5 : g < 72
  · exact look_of look5 hf hr (by omega) (by omega)
  by_cases c6 : g < 84
  · exact look_of look6 hf hr (by omega) (by omega)
  by_cases c7 : g < 96
  · exact look_of look7 hf hr (by omega) (by omega)
  by_cases c8 : g < 108
  · exact look_of look8 hf hr (by omega) (by omega)
  by_cases c9 : g < 120
  · exact look_of look9 hf hr (by omega) (by omega)
  by_cases c10 : g < 132
  · exact look_of look10 hf hr (by omega) (by omega)
  by_cases c11 : g < 144
  · exact look_of look11 hf hr (by omega) (by omega)
  by_cases c12 : g < 156
  · exact look_of look12 hf hr (by omega) (by omega)
  exact look_of look13 hf hr (by omega) (by omega)⟩

def ioN : List Nat := [104, 97, 114, 110, 101, 115, 115, 32, 50, 55, 97, 54, 52, 98, 99, 99, 99, 52, 98, 49, 98, 101, 100, 55, 54, 52, 101, 100, 49, 101, 55, 55, 49, 101, 54, 99, 57, 51, 98, 54, 102, 102, 50, 101, 52, 54, 100, 55, 51, 50, 49, 98, 49, 97, 101, 98, 49, 97, 51, 54, 100, 100, 101, 57, 49, 52, 100, 101, 51, 54, 54, 97, 32, 99, 117, 116, 32, 97, 116, 32, 108, 111, 111, 112, 46, 101, 120, 97, 109, 112, 108, 101, 47, 100, 105, 102, 102, 101, 114, 101, 110, 99, 101, 101, 110, 103, 105, 110, 101, 47, 108, 97, 119, 115, 46, 70, 110, 68, 105, 102, 102, 84, 97, 98, 108, 101, 32, 108, 111, 111, 112, 46, 101, 120, 97, 109, 112, 108, 101, 47, 100, 105, 102, 102, 101, 114, 101, 110, 99, 101, 101, 110, 103, 105, 110, 101, 47, 108, 97, 119, 115, 46, 70, 110, 69, 120, 97, 99, 116, 82, 117, 110, 69, 110, 103, 105, 110, 101, 32, 108, 111, 111, 112, 46, 101, 120, 97, 109, 112, 108, 101, 47, 100, 105, 102, 102, 101, 114, 101, 110, 99, 101, 101, 110, 103, 105, 110, 101, 47, 108, 97, 119, 115, 46, 70, 110, 69, 120, 97, 99, 116, 82, 117, 110, 72, 97, 108, 118, 101, 115, 32, 108, 111, 111, 112, 46, 101, 120, 97, 109, 112, 108, 101, 47, 100, 105, 102, 102, 101, 114, 101, 110, 99, 101, 101, 110, 103, 105, 110, 101, 47, 108, 97, 119, 115, 46, 70, 110, 65, 100, 100, 69, 110, 103, 105, 110, 101, 115, 32, 108, 111, 111, 112, 46, 101, 120, 97, 109, 112, 108, 101, 47, 100, 105, 102, 102, 101, 114, 101, 110, 99, 101, 101, 110, 103, 105, 110, 101, 47, 108, 97, 119, 115, 46, 70, 110, 84, 117, 114, 110, 83, 117, 109, 32, 108, 111, 111, 112, 46, 101, 120, 97, 109, 112, 108, 101, 47, 100, 105, 102, 102, 101, 114, 101, 110, 99, 101, 101, 110, 103, 105, 110, 101, 47, 108, 97, 119, 115, 46, 70, 110, 87, 105, 100, 101, 110, 69, 110, 103, 105, 110, 101, 32, 108, 111, 111, 112, 46, 101, 120, 97, 109, 112, 108, 101, 47, 100, 105, 102, 102, 101, 114, 101, 110, 99, 101, 101, 110, 103, 105, 110, 101, 47, 108, 97, 119, 115, 46, 70, 110, 83, 101, 116, 85, 112, 82, 101, 97, 100, 32, 108, 111, 111, 112, 46, 101, 120, 97, 109, 112, 108, 101, 47, 100, 105, 102, 102, 101, 114, 101, 110, 99, 101, 101, 110, 103, 105, 110, 101, 47, 108, 97, 119, 115, 46, 70, 110, 82, 117, 110, 72, 97, 108, 118, 101, 115, 32, 108, 111, 111, 112, 46, 101, 120, 97, 109, 112, 108, 101, 47, 100, 105, 102, 102, 101, 114, 101, 110, 99, 101, 101, 110, 103, 105, 110, 101, 47, 108, 97, 119, 115, 46, 70, 110, 67, 97, 112, 97, 99, 105, 116, 121, 32, 108, 111, 111, 112, 46, 101, 120, 97, 109, 112, 108, 101, 47, 100, 105, 102, 102, 101, 114, 101, 110, 99, 101, 101, 110, 103, 105, 110, 101, 47, 108, 97, 119, 115, 46, 70, 110, 84, 117, 114, 110, 83, 104, 111, 119, 115, 32, 108, 111, 111, 112, 46, 101, 120, 97, 109, 112, 108, 101, 47, 100, 105, 102, 102, 101, 114, 101, 110, 99, 101, 101, 110, 103, 105, 110, 101, 47, 108, 97, 119, 115, 46, 70, 110, 82, 117, 110, 84, 117, 114, 110, 115, 32, 108, 111, 111, 112, 46, 101, 120, 97, 109, 112, 108, 101, 47, 100, 105, 102, 102, 101, 114, 101, 110, 99, 101, 101, 110, 103, 105, 110, 101, 47, 108, 97, 119, 115, 46, 70, 110, 82, 101, 97, 100, 83, 101, 116, 85, 112]
theorem io_eq : Try.prog.initOrder = String.ofList (ioN.map Char.ofNat) := by kernel_rfl
theorem io : Try.prog.initOrder.toList = ioN.map Char.ofNat := by rw [io_eq, String.toList_ofList]
def ioW : List (List Char) := [([99, 117, 116] : List Nat).map Char.ofNat, ([97, 116] : List Nat).map Char.ofNat, ([108, 111, 111, 112, 46, 101, 120, 97, 109, 112, 108, 101, 47, 100, 105, 102, 102, 101, 114, 101, 110, 99, 101, 101, 110, 103, 105, 110, 101, 47, 108, 97, 119, 115, 46, 70, 110, 68, 105, 102, 102, 84, 97, 98, 108, 101] : List Nat).map Char.ofNat, ([108, 111, 111, 112, 46, 101, 120, 97, 109, 112, 108, 101, 47, 100, 105, 102, 102, 101, 114, 101, 110, 99, 101, 101, 110, 103, 105, 110, 101, 47, 108, 97, 119, 115, 46, 70, 110, 69, 120, 97, 99, 116, 82, 117, 110, 69, 110, 103, 105, 110, 101] : List Nat).map Char.ofNat, ([108, 111, 111, 112, 46, 101, 120, 97, 109, 112, 108, 101, 47, 100, 105, 102, 102, 101, 114, 101, 110, 99, 101, 101, 110, 103, 105, 110, 101, 47, 108, 97, 119, 115, 46, 70, 110, 69, 120, 97, 99, 116, 82, 117, 110, 72, 97, 108, 118, 101, 115] : List Nat).map Char.ofNat, ([108, 111, 111, 112, 46, 101, 120, 97, 109, 112, 108, 101, 47, 100, 105, 102, 102, 101, 114, 101, 110, 99, 101, 101, 110, 103, 105, 110, 101, 47, 108, 97, 119, 115, 46, 70, 110, 65, 100, 100, 69, 110, 103, 105, 110, 101, 115] : List Nat).map Char.ofNat, ([108, 111, 111, 112, 46, 101, 120, 97, 109, 112, 108, 101, 47, 100, 105, 102, 102, 101, 114, 101, 110, 99, 101, 101, 110, 103, 105, 110, 101, 47, 108, 97, 119, 115, 46, 70, 110, 84, 117, 114, 110, 83, 117, 109] : List Nat).map Char.ofNat, ([108, 111, 111, 112, 46, 101, 120, 97, 109, 112, 108, 101, 47, 100, 105, 102, 102, 101, 114, 101, 110, 99, 101, 101, 110, 103, 105, 110, 101, 47, 108, 97, 119, 115, 46, 70, 110, 87, 105, 100, 101, 110, 69, 110, 103, 105, 110, 101] : List Nat).map Char.ofNat, ([108, 111, 111, 112, 46, 101, 120, 97, 109, 112, 108, 101, 47, 100, 105, 102, 102, 101, 114, 101, 110, 99, 101, 101, 110, 103, 105, 110, 101, 47, 108, 97, 119, 115, 46, 70, 110, 83, 101, 116, 85, 112, 82, 101, 97, 100] : List Nat).map Char.ofNat, ([108, 111, 111, 112, 46, 101, 120, 97, 109, 112, 108, 101, 47, 100, 105, 102, 102, 101, 114, 101, 110, 99, 101, 101, 110, 103, 105, 110, 101, 47, 108, 97, 119, 115, 46, 70, 110, 82, 117, 110, 72, 97, 108, 118, 101, 115] : List Nat).map Char.ofNat, ([108, 111, 111, 112, 46, 101, 120, 97, 109, 112, 108, 101, 47, 100, 105, 102, 102, 101, 114, 101, 110, 99, 101, 101, 110, 103, 105, 110, 101, 47, 108, 97, 119, 115, 46, 70, 110, 67, 97, 112, 97, 99, 105, 116, 121] : List Nat).map Char.ofNat, ([108, 111, 111, 112, 46, 101, 120, 97, 109, 112, 108, 101, 47, 100, 105, 102, 102, 101, 114, 101, 110, 99, 101, 101, 110, 103, 105, 110, 101, 47, 108, 97, 119, 115, 46, 70, 110, 84, 117, 114, 110, 83, 104, 111, 119, 115] : List Nat).map Char.ofNat, ([108, 111, 111, 112, 46, 101, 120, 97, 109, 112, 108, 101, 47, 100, 105, 102, 102, 101, 114, 101, 110, 99, 101, 101, 110, 103, 105, 110, 101, 47, 108, 97, 119, 115, 46, 70, 110, 82, 117, 110, 84, 117, 114, 110, 115] : List Nat).map Char.ofNat, ([108, 111, 111, 112, 46, 101, 120, 97, 109, 112, 108, 101, 47, 100, 105, 102, 102, 101, 114, 101, 110, 99, 101, 101, 110, 103, 105, 110, 101, 47, 108, 97, 119, 115, 46, 70, 110, 82, 101, 97, 100, 83, 101, 116, 85, 112] : List Nat).map Char.ofNat]
theorem io_words : behindMainWord (wordsSigns (ioN.map Char.ofNat)) = ioW := by kernel_rfl
theorem io_strip : stripLifts liftWords ioW = ([], ioW) := by kernel_rfl

theorem make_gen (P : Program) (h : P.initOrder.toList = ioN.map Char.ofNat) : P.make = some .cut := by
  unfold Program.make
  rw [h, io_words]
  show _ = some Make.cut
  kernel_rfl
theorem lifts_gen (P : Program) (h : P.initOrder.toList = ioN.map Char.ofNat) : P.liftsFinal = false := by
  have hl : P.headLifts = [] := by
    unfold Program.headLifts
    rw [h, io_words, io_strip]
    show _ = []
    kernel_rfl
  unfold Program.liftsFinal
  rw [h, io_words, hl]
  show _ = false
  kernel_rfl
theorem enter_gen (P : Program) (h : P.initOrder.toList = ioN.map Char.ofNat) (h1 : P.laysLater = false) (h2 : P.bearsReflect = false) (h3 : P.doorFits [] = true) : P.mayEnter = true := by
  unfold Program.mayEnter
  rw [h, io_words]
  unfold ioW
  have e := io_strip
  unfold ioW at e
  simp only [e, h1, h2, h3]
  show _ = true
  kernel_rfl
theorem make_is : Try.prog.make = some .cut := make_gen _ io
theorem lifts_final : Try.prog.liftsFinal = false := lifts_gen _ io
theorem may_enter : Try.prog.mayEnter = true := enter_gen _ io (by kernel_rfl) (by kernel_rfl) (by kernel_rfl)

end Go.Proofs.Ytkmblobfamhoiaa
