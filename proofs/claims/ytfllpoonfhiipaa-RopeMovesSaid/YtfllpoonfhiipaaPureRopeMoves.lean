/- For every list of edits, every offset and both values of after, Move answers what the specification says, or its error: the law returns true. -/
import Derived.Test.YtfllpoonfhiipaaRopeSp
set_option linter.unusedVariables false
namespace Go.Proofs.Ytfllpoonfhiipaa.Pure
open Go.RowKit Go.Proofs.Ytfllpoonfhiipaa Go.Proofs.Ytfllpoonfhiipaa.P Go.Proofs.YtfllpoonfhiipaaW.PrintWords
theorem RopeMoves : ∀ (a0 : List (S47)) (a1 : Int) (a2 : Bool), (fun l => l.length ≤ 9223372036854775807 ∧ ∀ a ∈ l, ok47 a) a0 → OpG.okI a1 → ∃ k, marginalialaw01_RopeMoves.f k a0 a1 a2 = some true := by
  intro l o after hl ho
  apply Ev.rounds
  have hf : Fine 2000 (cut 2000 l) := cut_fine hl.2
  unfold marginalialaw01_RopeMoves.f
  refine Ev.bind (Cut_ev l 2000 hl.1) ?_
  generalize cut 2000 l = t at hf ⊢
  refine Ev.bind (move_ev t o after hf (by omega)) ?_
  have fin : ∀ bad : Int, bad = mvErr t o → Ev (fun k => marginalialaw01_RopeMoves.j0 k o after t (if mvErr t o = 0 then mv o after 0 t else 0) (mvErr t o) bad) true := by
    intro bad hb
    refine Ev.shift ?_
    simp only [marginalialaw01_RopeMoves.j0]
    by_cases h0 : mvErr t o = 0
    · rw [h0] at hb ⊢
      refine Ev.pos hb ?_
      unfold mvErr at h0
      split at h0
      · cases h0
      split at h0
      · split at h0
        · cases h0
        · refine Ev.bind (rmove_loop o after t hf.1 (by omega) (by omega) t 0 0 0 rfl (by assumption) (by omega) (by omega) (by omega) ?_) ?_
          · have h1 := newSum_le hf.2
            have h2 : t.length * 2000 ≤ 102 * 2000 := Nat.mul_le_mul hf.1 (Nat.le_refl _)
            omega
          · exact Ev.pos (by simp) (Ev.pos rfl (Ev.bind1 (a := true) rfl (Ev.now _)))
      · cases h0
    · refine Ev.neg (by omega) (Ev.pos (by simp [h0]) (Ev.pos hb.symm (Ev.bind1 (a := true) rfl (Ev.now _))))
  by_cases h2 : (t.length : Int) > 100
  · refine Ev.pos h2 (fin 3 ?_)
    unfold mvErr
    rw [if_pos h2]
  refine Ev.neg h2 (Ev.bind (a := sp 20000 0 t) ?_ ?_)
  · unfold marginaliaref01_Spans.f
    exact rspans_loop t hf.1 t 0 0 rfl
  by_cases h3 : sp 20000 0 t = true
  · refine Ev.pos h3 ?_
    by_cases h4 : o < 0
    · refine Ev.pos h4 (fin 2 ?_)
      unfold mvErr
      rw [if_neg h2, if_pos h3, if_pos (.inl h4)]
    refine Ev.neg h4 ?_
    by_cases h5 : o > 20000
    · refine Ev.pos h5 (fin 2 ?_)
      unfold mvErr
      rw [if_neg h2, if_pos h3, if_pos (.inr h5)]
    · refine Ev.neg h5 (fin 0 ?_)
      unfold mvErr
      rw [if_neg h2, if_pos h3, if_neg (by omega)]
  · refine Ev.neg h3 (fin 2 ?_)
    unfold mvErr
    rw [if_neg h2, if_neg h3]
end Go.Proofs.Ytfllpoonfhiipaa.Pure
