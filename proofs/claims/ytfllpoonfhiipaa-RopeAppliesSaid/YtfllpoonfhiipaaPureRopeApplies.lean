/- For every string and every list of edits, Check, Apply and Invert answer what the specification says, or its error: the law returns true. -/
import Derived.Test.YtfllpoonfhiipaaRopeSp
set_option linter.unusedVariables false
namespace Go.Proofs.Ytfllpoonfhiipaa.Pure
open Go.RowKit Go.Proofs.Ytfllpoonfhiipaa Go.Proofs.Ytfllpoonfhiipaa.P Go.Proofs.YtfllpoonfhiipaaW.PrintWords
theorem RopeApplies : ∀ (a0 : ByteArray) (a1 : List (S47)), OpG.okS a0 → (fun l => l.length ≤ 9223372036854775807 ∧ ∀ a ∈ l, ok47 a) a1 → ∃ k, marginalialaw01_RopeApplies.f k a0 a1 = some true := by
  intro a0 l hs hl
  apply Ev.rounds
  have hf : Fine 2000 (cut 2000 l) := cut_fine hl.2
  have hz := short_size a0
  unfold marginalialaw01_RopeApplies.f
  refine Ev.bind1 (Short_eq a0) (Ev.bind (Cut_ev l 2000 hl.1) ?_)
  generalize cut 2000 l = t at hf ⊢
  generalize short a0 = s at hz ⊢
  refine Ev.bind (rcheck_ev s t (by omega) hf (by omega)) (Ev.bind (apply_ev s t (by omega) hf (by omega)) (Ev.bind (invert_ev s t (by omega) hf (by omega)) (Ev.bind (check_ev s t (by omega) hf (by omega)) ?_)))
  refine Ev.pos rfl (Ev.pos rfl (Ev.shift ?_))
  simp only [marginalialaw01_RopeApplies.j0]
  refine Ev.neg (by simp) ?_
  by_cases h : chk s.size t = 0
  · simp only [if_pos h]
    refine Ev.bind (rapply_ev s t h) ?_
    refine Ev.pos rfl ?_
    refine Ev.bind (rinvert_ev s t hf (by omega) h) ?_
    refine Ev.bind (same_ev _ _ ?_) ?_
    · rw [inv_length]
      have := hf.1
      omega
    · rw [sameB_refl]
      exact Ev.pos rfl (Ev.bind1 (a := true) rfl (Ev.now _))
  · simp only [if_neg h]
    exact Ev.pos (by simp [Lib.toList_data]) (Ev.pos rfl (Ev.bind1 (a := true) rfl (Ev.now _)))
end Go.Proofs.Ytfllpoonfhiipaa.Pure
