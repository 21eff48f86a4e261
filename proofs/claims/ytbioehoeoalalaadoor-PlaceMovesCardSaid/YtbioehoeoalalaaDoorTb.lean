/- The library's tables and internal/bytealg.MaxLen, as they lie when the call begins, and below it. -/
import Derived.Test.YtbioehoeoalalaaDoorShelf
import Derived.Test.YtbioehoeoalalaaDoorUt
import Derived.Test.YtbioehoeoalalaaDoorWWords
import Derived.Test.YtbioehoeoalalaaDoorWLast
import Derived.Test.YtbioehoeoalalaaDoorWMore
set_option linter.unusedVariables false
namespace Go.Proofs.YtbioehoeoalalaaDoor
open Go.RowKit Go.Proofs.YtbioehoeoalalaaDoorW.PrintWords Go.Proofs.YtbioehoeoalalaaDoorW.PrintLast Go.Proofs.YtbioehoeoalalaaDoorW.PrintMore
structure TB (w : World) : Prop where
  tabs : Lib.Utf8Tabs 1 2 w
  max : ∃ m, w.cell? ⟨0, 0, none⟩ = some (.int .i64 m)
theorem TB.below {w w' : World} (h : TB w) (hb : Below w.heap.size w w') : TB w' := by
  obtain ⟨m, hm⟩ := h.max
  exact ⟨Utf8Tabs_below h.tabs hb, m, (hb.cell (World.block_lt_of_cell? w _ hm)).trans hm⟩
end Go.Proofs.YtbioehoeoalalaaDoor
