/- Contracts of both sides' ResultOf, for whatever comes in. -/
import Derived.Test.YtcalheieakppmaaEngB
import Derived.Test.YtcalheieakppmaaSpeN
namespace Go.Proofs.Ytcalheieakppmaa
open Go.RowKit
set_option maxRecDepth 4000

set_option maxHeartbeats 800000 in
theorem l1Signed_c (W : Nat) (x : Int) (w : World) (h1 : 1 ≤ W) (h12 : W ≤ 12) :
    Calls Try.prog 91 #[.string (showC W x)] w fun e w' => e = .returned (.int .i64 (sgn W x)) ∧ w = w' := by
  obtain ⟨u, Hu⟩ : ∃ u, Hid (x % ten W = u) := ⟨_, hd rfl⟩
  have hu := mod_bd W x
  rw [Hu.out] at hu
  have ht := ten_bd W h12
  obtain ⟨hu1, hu2⟩ := hu
  obtain ⟨ht1, ht2⟩ := ht
  have hsz : Hid ((showC W x).size = W) := hd (showC_size W x)
  by_cases hc : u ≥ ten W / 2
  · have Hf : Hid (sgn W x = u - ten W) := hd (by rw [sgn, Hu.out, if_pos hc])
    go_enter Try.func91, Try.ntmps91
    go_wp2_with fail
    refine (l1Value_w W x u _ h1 h12 Hu.out).mono ?_
    rintro e w' ⟨rfl, rfl⟩
    go_wp2_with fail
    rw [hsz.out]
    refine (l1Ten_w W _ h12).mono ?_
    rintro e w' ⟨rfl, rfl⟩
    go_wp2_with fail
    rw [hsz.out]
    refine (l1Ten_w W _ h12).mono ?_
    rintro e w' ⟨rfl, rfl⟩
    go_wp2
    go_ret
    rw [Hf.out]
    exact ⟨rfl, rfl⟩
  · have Hf : Hid (sgn W x = u) := hd (by rw [sgn, Hu.out, if_neg hc])
    go_enter Try.func91, Try.ntmps91
    go_wp2_with fail
    refine (l1Value_w W x u _ h1 h12 Hu.out).mono ?_
    rintro e w' ⟨rfl, rfl⟩
    go_wp2_with fail
    rw [hsz.out]
    refine (l1Ten_w W _ h12).mono ?_
    rintro e w' ⟨rfl, rfl⟩
    go_wp2
    go_ret
    rw [Hf.out]
    exact ⟨rfl, rfl⟩

/-- What an engine shows. -/
def resF (cs : List ByteArray) : Int × Bool := if engV cs then (sgn (hsz cs) ((cvs cs).getD 0 0), true) else (0, false)

end Go.Proofs.Ytcalheieakppmaa
