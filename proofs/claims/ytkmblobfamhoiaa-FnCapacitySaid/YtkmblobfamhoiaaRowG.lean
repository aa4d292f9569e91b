/- The calls of this translation's functions, and the look at each of them. -/
import Derived.Test.YtkmblobfamhoiaaRowF
import Derived.Test.YtkmblobfamhoiaaRowD
namespace Go.Proofs.Ytkmblobfamhoiaa

def setT : List Bool := [false, false, false, true, true, true, true, true, true, true, true, true, true, true, true, true, true, true, true, true, true, true, true, true, true, true, true, true, true, true, true, true, true, true, true, true, true, true, true, true, true, true, true, true, true, true, true, true, true, true, true, true, true, true, true, true, true, true, true, true, true, true, true, true, true, true, true, true, true, true, true, true, true, true, true, true, true, true, true, true, true, true, true, true, true, true, true, true, true, true, true, true, true, true, true, true, true, true, true, true, true, true, true, true, true, true, true, true, true, true, true, true, true, true, true, true, true, true, true, true, true, true, true, true, true, true, true, true, true, true, true, true, true, true, true, true, true, true, true, true, true, true, true, true, true, true, true, true, true, true, true, true, true, true, true, true, true]
def inS (g : Nat) : Bool := setT.getD g false
def leadT : List (List Nat) := [[], [], [], [15, 16, 17, 18, 19, 19], [20, 22, 21, 22, 23, 24, 22, 25, 26, 24, 27, 28, 22, 23, 24, 28], [20, 22, 29, 22, 30, 24, 22, 25, 26, 24, 27, 28, 22, 30, 24, 28], [31, 32, 33, 34, 34, 35, 35, 32, 36, 36, 32, 32, 35, 34, 36, 34, 34], [37, 38, 39, 34, 34, 40, 41, 42, 43, 43], [44, 45, 46, 34, 34, 45, 47, 47, 34, 19], [48, 49, 50, 34, 34, 47, 51, 52, 19, 53, 54], [55, 30, 29, 19, 19, 56, 23, 19], [57, 58, 59, 59, 60, 49, 61, 61, 61, 61, 23, 19], [48, 49, 50, 34, 34, 53, 52, 61, 62], [63, 23, 21, 19, 54, 19, 54, 36, 30, 35, 52, 19], [64, 47, 65, 19, 19, 49, 34], [66], [67, 68, 69], [71, 70], [67, 72], [], [73], [74, 75, 76], [77], [78, 62], [], [79], [80], [], [], [74, 75, 81], [78, 82], [83, 84, 85, 86, 87, 84, 88, 88], [54, 54, 43], [89, 89, 85, 90], [], [38], [91], [83, 92, 87, 93, 87], [54, 94, 95], [89, 96, 97], [98, 99, 99, 102, 101, 100], [94, 103], [104, 99, 102, 101, 100], [98, 99, 99, 102, 101, 100], [83, 92, 105], [54, 106], [89, 85, 107], [54, 108, 109], [83, 110, 111, 87, 105], [51, 112], [113, 114, 115], [116, 94, 117, 109], [54, 118], [119], [98], [63], [54, 120, 95, 95], [83, 121, 87, 105], [60, 122, 112], [123, 114, 124], [116, 94, 117], [112], [54, 125], [83, 92, 87, 93, 87], [83, 92, 87, 126, 87, 87, 50], [89, 75, 127], [83, 129, 128], [130], [], [], [], [131, 132], [69], [], [89, 96], [133, 134, 134], [85, 90], [], [54, 108], [], [135], [136, 136], [137, 138], [], [139, 93, 86, 87, 87, 140], [], [87, 87, 87], [], [87, 87, 141], [142, 96], [133, 133, 140], [54, 120, 95], [84, 88], [87], [], [120, 125, 143], [], [85, 76, 144], [104, 104], [104], [], [], [], [], [122], [87, 93, 139], [118, 112], [142, 75, 115], [118], [116], [126, 145], [87, 93, 87], [122, 102, 101, 100], [127, 146, 148, 147], [96], [114, 124, 140], [130], [103], [104, 102, 99], [116, 94, 117], [], [83, 110, 111, 87, 87, 93], [], [127, 146, 96, 148], [134], [120, 43], [93, 87, 87, 87, 87], [96, 96], [87, 87, 93, 93], [126, 87, 148, 87, 87, 87, 87], [94], [149], [], [], [], [], [85, 90], [54, 150], [54, 150], [93], [134, 134, 134], [87, 151, 93, 152], [114], [120, 40], [85, 153], [87, 87, 93], [96], [154, 127], [155], [96, 96], [120, 43], [87], [], [133, 133, 140], [132], [156], []]
def lead (g : Nat) : List Nat := leadT.getD g []

def LookW (a n : Nat) : Prop := ((List.range' a n).all fun g => !(inS g) || (((Try.prog.funcs[g]?).all (okW Try.prog inS)) && (decide ((Try.prog.funcs[g]?).elim [] Try.prog.leadsTo = lead g) && (lead g).all inS))) = true
theorem lookw0 : LookW 0 12 := by unfold LookW; kernel_rfl
theorem lookw1 : LookW 12 12 := by unfold LookW; kernel_rfl
theorem lookw2 : LookW 24 12 := by unfold LookW; kernel_rfl
theorem lookw3 : LookW 36 12 := by unfold LookW; kernel_rfl
theorem lookw4 : LookW 48 12 := by unfold LookW; kernel_rfl
theorem lookw5 : LookW 60 12 := by unfold LookW; kernel_rfl
theorem lookw6 : LookW 72 12 := by unfold LookW; kernel_rfl
theorem lookw7 : LookW 84 12 := by unfold LookW; kernel_rfl
theorem lookw8 : LookW 96 12 := by unfold LookW; kernel_rfl
theorem lookw9 : LookW 108 12 := by unfold LookW; kernel_rfl
theorem lookw10 : LookW 120 12 := by unfold LookW; kernel_rfl
theorem lookw11 : LookW 132 12 := by unfold LookW; kernel_rfl
theorem lookw12 : LookW 144 12 := by unfold LookW; kernel_rfl
theorem lookw13 : LookW 156 1 := by unfold LookW; kernel_rfl

theorem lookw_of {a n g : Nat} (h : LookW a n) (hr : inS g = true) (h1 : a ≤ g) (h2 : g < a + n) :
    ((Try.prog.funcs[g]?).all (okW Try.prog inS)) = true ∧ (Try.prog.funcs[g]?).elim [] Try.prog.leadsTo = lead g ∧ ∀ h ∈ lead g, inS h = true := by
  unfold LookW at h
  rw [List.all_eq_true] at h
  have h3 := h g (List.mem_range'_1.2 ⟨h1, h2⟩)
  rw [hr] at h3
  simp only [Bool.not_true, Bool.false_or, Bool.and_eq_true, decide_eq_true_eq, List.all_eq_true] at h3
  exact ⟨h3.1, h3.2.1, h3.2.2⟩

theorem inS_top {g : Nat} (h : inS g = true) : g < 157 := by
  rcases Nat.lt_or_ge g 157 with h1 | h1
  · exact h1
  · exfalso
    unfold inS at h
    rw [List.getD_eq_getElem?_getD, List.getElem?_eq_none (by exact h1)] at h
    simp at h

theorem lookw_all {g : Nat} (hr : inS g = true) :
    ((Try.prog.funcs[g]?).all (okW Try.prog inS)) = true ∧ (Try.prog.funcs[g]?).elim [] Try.prog.leadsTo = lead g ∧ ∀ h ∈ lead g, inS h = true := by
  have hg := inS_top hr
  by_cases c0 : g < 12
  · exact lookw_of lookw0 hr (by omega) (by omega)
  by_cases c1 : g < 24
  · exact lookw_of lookw1 hr (by omega) (by omega)
  by_cases c2 : g < 36
  · exact lookw_of lookw2 hr (by omega) (by omega)
  by_cases c3 : g < 48
  · exact lookw_of lookw3 hr (by omega) (by omega)
  by_cases c4 : g < 60
  · exact lookw_of lookw4 hr (by omega) (by omega)
  by_cases c5 : g < 72
  · exact lookw_of lookw5 hr (by omega) (by omega)
  by_cases c6 : g < 84
  · exact lookw_of lookw6 hr (by omega) (by omega)
  by_cases c7 : g < 96
  · exact lookw_of lookw7 hr (by omega) (by omega)
  by_cases c8 : g < 108
  · exact lookw_of lookw8 hr (by omega) (by omega)
  by_cases c9 : g < 120
  · exact lookw_of lookw9 hr (by omega) (by omega)
  by_cases c10 : g < 132
  · exact lookw_of lookw10 hr (by omega) (by omega)
  by_cases c11 : g < 144
  · exact lookw_of lookw11 hr (by omega) (by omega)
  by_cases c12 : g < 156
  · exact lookw_of lookw12 hr (by omega) (by omega)
  exact lookw_of lookw13 hr (by omega) (by omega)

theorem plainW : PlainW Try.prog inS := ⟨fun g fn hf hr => by
  have h := (lookw_all hr).1
  rw [hf] at h
  exact h⟩
theorem tellsL : TellsL Try.prog inS lead := ⟨fun _ hr => (lookw_all hr).2⟩
theorem sizeF : 174 ≤ Try.prog.funcs.size := by
  have h : Nat.ble 174 Try.prog.funcs.size = true := by kernel_rfl
  exact (Nat.ble_eq (x := 174) (y := Try.prog.funcs.size)) ▸ h
theorem callsValue : ((Try.prog.funcs[78]?).any fun fn => match fn.body with | some c => c.unfollowed | none => entryCalls fn) = true := by kernel_rfl
theorem unf4 : Try.prog.unfollowed 4 = true := unfollowed_of (x := 78) (tellsL.mem (K := 29) (by kernel_rfl) (Nat.le_trans (by decide) sizeF) (by exact List.contains_iff_mem.1 (by kernel_rfl))) callsValue
theorem unf5 : Try.prog.unfollowed 5 = true := unfollowed_of (x := 78) (tellsL.mem (K := 31) (by kernel_rfl) (Nat.le_trans (by decide) sizeF) (by exact List.contains_iff_mem.1 (by kernel_rfl))) callsValue
theorem unf10 : Try.prog.unfollowed 10 = true := unfollowed_of (x := 78) (tellsL.mem (K := 34) (by kernel_rfl) (Nat.le_trans (by decide) sizeF) (by exact List.contains_iff_mem.1 (by kernel_rfl))) callsValue
theorem unf11 : Try.prog.unfollowed 11 = true := unfollowed_of (x := 78) (tellsL.mem (K := 76) (by kernel_rfl) (Nat.le_trans (by decide) sizeF) (by exact List.contains_iff_mem.1 (by kernel_rfl))) callsValue
theorem unf13 : Try.prog.unfollowed 13 = true := unfollowed_of (x := 78) (tellsL.mem (K := 33) (by kernel_rfl) (Nat.le_trans (by decide) sizeF) (by exact List.contains_iff_mem.1 (by kernel_rfl))) callsValue

end Go.Proofs.Ytkmblobfamhoiaa
