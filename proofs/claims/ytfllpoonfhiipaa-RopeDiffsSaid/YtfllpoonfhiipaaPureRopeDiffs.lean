/- For any two strings Diff answers no edit, or the one edit, of the specification, or its error: the law returns true. -/
import Derived.Test.YtfllpoonfhiipaaRopeSp
set_option linter.unusedVariables false
namespace Go.Proofs.Ytfllpoonfhiipaa.Pure
open Go.RowKit Go.Proofs.Ytfllpoonfhiipaa Go.Proofs.Ytfllpoonfhiipaa.P Go.Proofs.YtfllpoonfhiipaaW.PrintWords
theorem RopeDiffs : ∀ (a0 : ByteArray) (a1 : ByteArray), OpG.okS a0 → OpG.okS a1 → ∃ k, marginalialaw01_RopeDiffs.f k a0 a1 = some true := by
  intro a0 a1 _ _
  apply Ev.rounds
  have hz := short_size a0
  have hz' := short_size a1
  unfold marginalialaw01_RopeDiffs.f
  refine Ev.bind1 (Short_eq a0) (Ev.bind1 (Short_eq a1) ?_)
  generalize short a0 = s at hz ⊢
  generalize short a1 = t at hz' ⊢
  refine Ev.bind (diff_ev s t hz hz') ?_
  by_cases h : max s.size t.size > 20000
  · have fin : Ev (fun k => marginalialaw01_RopeDiffs.j0 k s t [] 3 true) true := by
      refine Ev.shift ?_
      simp only [marginalialaw01_RopeDiffs.j0]
      exact Ev.pos (by simp) (Ev.pos rfl (Ev.pos (by simp) (Ev.bind1 (a := true) rfl (Ev.now _))))
    simp only [if_pos h]
    by_cases g : (s.size : Int) > 20000
    · exact Ev.pos g fin
    · rw [decide_eq_true (show (t.size : Int) > 20000 by omega)]
      exact Ev.neg g fin
  · simp only [if_neg h]
    refine Ev.neg (by omega) ?_
    rw [decide_eq_false (show ¬ (t.size : Int) > 20000 by omega)]
    refine Ev.shift ?_
    simp only [marginalialaw01_RopeDiffs.j0]
    refine Ev.neg (by simp) (Ev.bind (rdiff_ev s t hz hz') (Ev.bind (same_ev _ _ ?_) ?_))
    · unfold diff
      split <;> simp
    · rw [sameB_refl]
      exact Ev.pos (by simp) (Ev.pos (by simp) (Ev.bind1 (a := true) rfl (Ev.now _)))
end Go.Proofs.Ytfllpoonfhiipaa.Pure
