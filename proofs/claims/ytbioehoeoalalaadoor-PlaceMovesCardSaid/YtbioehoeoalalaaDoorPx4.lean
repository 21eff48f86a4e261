-- printed by xprint (a program of this session)
import Derived.Test.YtbioehoeoalalaaDoorPx0
namespace Go.Proofs.YtbioehoeoalalaaDoor.P
open Go.RowKit Go.Proofs.YtbioehoeoalalaaDoorW.PrintWords Go.Proofs.YtbioehoeoalalaaDoorW.PrintLast Go.Proofs.YtbioehoeoalalaaDoorW.PrintMore
attribute [local go_sem] max2_int min2_int max_two min_two max_three min_three max_four min_four   -- for this text's walks alone
set_option linter.unusedVariables false
set_option linter.unusedSimpArgs false

/-! ### strings_LastIndexByte: function 31 -/
-- GIVEN PART
def strings_LastIndexByte.f (a0 : ByteArray) (a1 : Int) : Option (Int) := if a0.size < 4611686018427387904 then some (Lib.lastIndexByte a0 a1) else none
set_option maxRecDepth 100000 in
theorem strings_LastIndexByte.calls (a0 : ByteArray) (a1 : Int) (r : Int) (w : World) (h : strings_LastIndexByte.f a0 a1 = some r) :
    Calls Tryd.prog 31 #[.string a0, .int .u8 a1] w fun e w' => e = .returned (.int .i64 r) ∧ Drawn0 w w' := by
  unfold strings_LastIndexByte.f at h
  split at h
  · next hs =>
    simp only [Option.some.injEq] at h
    subst h
    refine (Tryd.strings_LastIndexByte a0 a1 hs w).mono ?_
    rintro e w' ⟨rfl, rfl⟩
    exact ⟨rfl, Drawn0.refl _⟩
  · cases h

end Go.Proofs.YtbioehoeoalalaaDoor.P
