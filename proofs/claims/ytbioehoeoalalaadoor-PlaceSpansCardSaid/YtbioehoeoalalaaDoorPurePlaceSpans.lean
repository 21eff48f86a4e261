/- Span answers as the specification says: the law returns true. -/
import Derived.Test.YtbioehoeoalalaaDoorPlaceSp7
import Derived.Test.YtbioehoeoalalaaDoorOp
set_option linter.unusedVariables false
namespace Go.Proofs.YtbioehoeoalalaaDoor.Pure
open Go.RowKit Go.Proofs.YtbioehoeoalalaaDoor Go.Proofs.YtbioehoeoalalaaDoor.P Go.Proofs.YtbioehoeoalalaaDoorW.PrintWords Go.Proofs.YtbioehoeoalalaaDoorW.PrintLast Go.Proofs.YtbioehoeoalalaaDoorW.PrintMore
theorem PlaceSpans0 (a0 : ByteArray) (x y u v : Int) : ∃ k, marginalialaw02_PlaceSpans.f k a0 x y u v = some true := by
  apply Ev.rounds
  have hz := short_size a0
  unfold marginalialaw02_PlaceSpans.f
  refine Ev.bind1 (Short_eq a0) ?_
  generalize short a0 = s at hz ⊢
  have AL : Ev (fun k => (marginalialaw02_alive.f k).bind fun t => (some t)) true := Ev.bind alive_ev (Ev.now _)
  obtain ⟨q, hq⟩ := rOffset_ev s x y hz
  obtain ⟨p, hp⟩ := rOffset_ev s u v hz
  by_cases hL : s.size > 20000
  · refine Ev.bind (Span_long s x y u v hL) (Ev.bind hq (Ev.bind hp (Ev.pos (by omega) ?_)))
    exact Ev.pos (by simp) (Ev.pos (by simp) AL)
  · have S := Span_ev s x y u v (by omega)
    have J : ∀ (a b : Int), Ev (fun k => marginalialaw02_PlaceSpans.j0 k 2 a b true 0 0) true := by
      intro a b
      refine Ev.shift ?_
      simp only [marginalialaw02_PlaceSpans.j0]
      exact Ev.pos (by simp) (Ev.pos (by simp) (Ev.pos (by simp) AL))
    refine Ev.bind S (Ev.bind hq (Ev.bind hp (Ev.neg (by omega) ?_)))
    cases h1 : offs s x y with
    | none => exact Ev.neg (by simp) (J _ _)
    | some a =>
      cases h2 : offs s u v with
      | none => exact Ev.pos (by simp) (Ev.neg (by simp) (J _ _))
      | some b =>
        refine Ev.pos (by simp) (Ev.pos (by simp) ?_)
        simp only
        by_cases h : a > b
        · rw [if_pos h, decide_eq_true (by omega : (a : Int) > b)]
          exact J _ _
        · rw [if_neg h, decide_eq_false (by omega : ¬ (a : Int) > b)]
          refine Ev.shift ?_
          simp only [marginalialaw02_PlaceSpans.j0]
          exact Ev.neg (by simp) (Ev.pos (by simp) (Ev.pos (by simp) AL))
theorem PlaceSpans : ∀ (a0 : ByteArray) (a1 : S23) (a2 : S23), OpG.okS a0 → ok23 a1 → ok23 a2 → ∃ k, marginalialaw02_PlaceSpans.f k a0 a1.f0 a1.f1 a2.f0 a2.f1 = some true := fun a0 a1 a2 _ _ _ => PlaceSpans0 a0 a1.f0 a1.f1 a2.f0 a2.f1
end Go.Proofs.YtbioehoeoalalaaDoor.Pure
