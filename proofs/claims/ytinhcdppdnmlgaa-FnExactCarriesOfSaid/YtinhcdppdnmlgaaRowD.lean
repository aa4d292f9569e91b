/- Closed facts on the words of this translation's head. -/
import Derived.Test.YtinhcdppdnmlgaaRowC
namespace Go.Proofs.Ytinhcdppdnmlgaa

def ioN : List Nat := [104, 97, 114, 110, 101, 115, 115, 32, 51, 101, 50, 49, 51, 48, 100, 97, 55, 55, 53, 53, 98, 52, 52, 56, 99, 54, 57, 56, 55, 48, 97, 51, 55, 52, 101, 98, 48, 54, 101, 49, 99, 100, 101, 98, 56, 49, 49, 56, 53, 53, 97, 97, 54, 57, 48, 56, 97, 49, 50, 48, 98, 101, 56, 53, 48, 97, 50, 101, 48, 98, 53, 97, 32, 99, 117, 116, 32, 97, 116, 32, 108, 111, 111, 112, 46, 101, 120, 97, 109, 112, 108, 101, 47, 100, 105, 102, 102, 101, 114, 101, 110, 99, 101, 101, 110, 103, 105, 110, 101, 47, 108, 97, 119, 115, 46, 70, 110, 69, 120, 97, 99, 116, 67, 97, 114, 114, 105, 101, 115, 79, 102, 32, 108, 111, 111, 112, 46, 101, 120, 97, 109, 112, 108, 101, 47, 100, 105, 102, 102, 101, 114, 101, 110, 99, 101, 101, 110, 103, 105, 110, 101, 47, 108, 97, 119, 115, 46, 70, 110, 69, 120, 97, 99, 116, 70, 111, 114, 109, 97, 116, 69, 110, 103, 105, 110, 101]
theorem io_eq : Try.prog.initOrder = String.ofList (ioN.map Char.ofNat) := by kernel_rfl
theorem io : Try.prog.initOrder.toList = ioN.map Char.ofNat := by rw [io_eq, String.toList_ofList]
def ioW : List (List Char) := [([99, 117, 116] : List Nat).map Char.ofNat, ([97, 116] : List Nat).map Char.ofNat, ([108, 111, 111, 112, 46, 101, 120, 97, 109, 112, 108, 101, 47, 100, 105, 102, 102, 101, 114, 101, 110, 99, 101, 101, 110, 103, 105, 110, 101, 47, 108, 97, 119, 115, 46, 70, 110, 69, 120, 97, 99, 116, 67, 97, 114, 114, 105, 101, 115, 79, 102] : List Nat).map Char.ofNat, ([108, 111, 111, 112, 46, 101, 120, 97, 109, 112, 108, 101, 47, 100, 105, 102, 102, 101, 114, 101, 110, 99, 101, 101, 110, 103, 105, 110, 101, 47, 108, 97, 119, 115, 46, 70, 110, 69, 120, 97, 99, 116, 70, 111, 114, 109, 97, 116, 69, 110, 103, 105, 110, 101] : List Nat).map Char.ofNat]
theorem io_words : behindMainWord (wordsSigns (ioN.map Char.ofNat)) = ioW := by kernel_rfl
theorem io_strip : stripLifts liftWords ioW = ([], ioW) := by kernel_rfl

theorem make_gen (P : Program) (h : P.initOrder.toList = ioN.map Char.ofNat) : P.make = some .cut := by
  unfold Program.make
  rw [h, io_words]
  show _ = some Make.cut
  kernel_rfl
theorem lifts_gen (P : Program) (h : P.initOrder.toList = ioN.map Char.ofNat) : P.liftsFinal = false := by
  have hl : P.headLifts = [] := by
    unfold Program.headLifts
    rw [h, io_words, io_strip]
    show _ = []
    kernel_rfl
  unfold Program.liftsFinal
  rw [h, io_words, hl]
  show _ = false
  kernel_rfl
theorem enter_gen (P : Program) (h : P.initOrder.toList = ioN.map Char.ofNat) (h1 : P.laysLater = false) (h2 : P.bearsReflect = false) (h3 : P.doorFits [] = true) : P.mayEnter = true := by
  unfold Program.mayEnter
  rw [h, io_words]
  unfold ioW
  have e := io_strip
  unfold ioW at e
  simp only [e, h1, h2, h3]
  show _ = true
  kernel_rfl
theorem make_is : Try.prog.make = some .cut := make_gen _ io
theorem lifts_final : Try.prog.liftsFinal = false := lifts_gen _ io
theorem may_enter : Try.prog.mayEnter = true := enter_gen _ io (by kernel_rfl) (by kernel_rfl) (by kernel_rfl)

end Go.Proofs.Ytinhcdppdnmlgaa
