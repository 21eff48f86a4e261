-- printed by xprint (a program of this session)
import Derived.Test.YtbioehoeoalalaaDoorPx0
namespace Go.Proofs.YtbioehoeoalalaaDoor.P
open Go.RowKit Go.Proofs.YtbioehoeoalalaaDoorW.PrintWords Go.Proofs.YtbioehoeoalalaaDoorW.PrintLast Go.Proofs.YtbioehoeoalalaaDoorW.PrintMore
attribute [local go_sem] max2_int min2_int max_two min_two max_three min_three max_four min_four   -- for this text's walks alone
set_option linter.unusedVariables false
set_option linter.unusedSimpArgs false

/-! ### place_step: function 33 -/
-- GIVEN PART
def place_step.f (a0 : ByteArray) : Option (Int × Int) := some ((Lib.decodeGo a0).2, if ((Lib.decodeGo a0).1 : Int) ≥ 65536 then 2 else 1)
set_option maxHeartbeats 8000000 in
set_option maxRecDepth 100000 in
theorem place_step.calls (a0 : ByteArray) (r1 : Int) (r2 : Int) (w : World) (h : place_step.f a0 = some (r1, r2)) (hT : TB w := by first | assumption | (refine TB.below (by assumption) ?_; repeat (first | exact Below.refl _ _ | (with_reducible first | exact Aside0.out (by assumption) | assumption | apply below_alloc | apply pw_below_drewN | apply below_drew1 | refine below_set ?_ (Aside0.out (by assumption))) | exact Aside0.out (by assumption)))) :
    Calls Tryd.prog 33 #[.string a0] w fun e w' => e = .returned (.tuple #[.int .i64 r1, .int .i64 r2]) ∧ Below w.heap.size w w' := by
  simp only [place_step.f, Option.some.injEq, Prod.mk.injEq] at h
  obtain ⟨rfl, h⟩ := h
  have hD := Tryd.utf8_DecodeRuneInString a0 w hT.tabs
  have HD := Aside0.mk hD
  clear hD hT
  generalize (Lib.decodeGo a0).1 = R at *
  generalize (Lib.decodeGo a0).2 = K at *
  by_cases hR : (R : Int) ≥ 65536
  · rw [if_pos hR] at h
    subst h
    go_enter Tryd.func33, Tryd.ntmps33
    go_wp2_with fail
    refine HD.out.mono ?_
    rintro e w1 ⟨rfl, hb⟩
    go_wp2_with fail
    go_ret2
    exact ⟨rfl, hb⟩
  · rw [if_neg hR] at h
    subst h
    have hR2 : decide ((R : Int) ≥ 65536) = false := decide_eq_false hR
    have hR3 : decide (65536 ≤ (R : Int)) = false := decide_eq_false hR
    clear hR
    go_enter Tryd.func33, Tryd.ntmps33
    go_wp2_with fail
    refine HD.out.mono ?_
    rintro e w1 ⟨rfl, hb⟩
    go_wp2_with fail
    go_ret2
    exact ⟨rfl, hb⟩

end Go.Proofs.YtbioehoeoalalaaDoor.P
