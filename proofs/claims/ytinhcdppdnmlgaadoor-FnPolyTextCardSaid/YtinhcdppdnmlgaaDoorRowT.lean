/- What a row lays gives the walk: Go's table of powers of ten. -/
import Derived.Test.YtinhcdppdnmlgaaDoorTxC
import Derived.Test.YtinhcdppdnmlgaaDoorRows
import Derived.Lib.LaidTab
import Derived.LaidLaws
namespace Go.Proofs.YtinhcdppdnmlgaaDoor
open Go

theorem laid_tail {P : Program} {x : String × DataW Unit} {r : List (String × DataW Unit)} {w : World} (h : laidMet P (x :: r) w) : laidMet P r w := by
  obtain ⟨ps, ⟨g, t, cs, fuel, p, q, h1, h2, h3, h4, h5, rfl⟩, hn, hb⟩ := h
  exact ⟨q, h5, (List.nodup_append.1 hn).2.1, fun b off hm => hb b off (List.mem_append_right _ hm)⟩

theorem pow10_data {H : Type} : (Rows.laid_internal_strconv_uint64pow10 : DataW H) = Lib.tabData .u64 Lib.pow10Tab := by rfl
theorem tab_of_laid {rest : List (String × DataW Unit)} {W : World} (h : laidMet Tryd.prog (("internal/strconv.uint64pow10", Rows.laid_internal_strconv_uint64pow10) :: rest) W) : Tab W := by
  rw [pow10_data] at h
  exact Lib.tabIs_of_head (g := 3) (t := 110) (e := 95) (n := 20) (by kernel_rfl) (by kernel_rfl) Tryd.underlying110 Tryd.underlying95 (by kernel_rfl) (by kernel_rfl) h

end Go.Proofs.YtinhcdppdnmlgaaDoor
