/- Of, Offset and Near answer as the specification says: the law returns true. -/
import Derived.Test.YtbioehoeoalalaaDoorPlaceSp7
import Derived.Test.YtbioehoeoalalaaDoorPx13
import Derived.Test.YtbioehoeoalalaaDoorOp
set_option linter.unusedVariables false
namespace Go.Proofs.YtbioehoeoalalaaDoor.Pure
open Go.RowKit Go.Proofs.YtbioehoeoalalaaDoor Go.Proofs.YtbioehoeoalalaaDoor.P Go.Proofs.YtbioehoeoalalaaDoorW.PrintWords Go.Proofs.YtbioehoeoalalaaDoorW.PrintLast Go.Proofs.YtbioehoeoalalaaDoorW.PrintMore
theorem PlaceOffsets0 (a0 : ByteArray) (a1 x y : Int) : ∃ k, marginalialaw02_PlaceOffsets.f k a0 a1 x y = some true := by
  apply Ev.rounds
  have hz := short_size a0
  unfold marginalialaw02_PlaceOffsets.f
  refine Ev.bind1 (Short_eq a0) ?_
  generalize short a0 = s at hz ⊢
  have AL : Ev (fun k => (marginalialaw02_alive.f k).bind fun t => (some t)) true := Ev.bind alive_ev (Ev.now _)
  by_cases hL : s.size > 20000
  · refine Ev.bind (Of_long s a1 hL) (Ev.bind (Offset_long s x y hL) (Ev.bind (Near_long s x y hL) (Ev.pos (by omega) ?_)))
    exact Ev.pos (by simp) (Ev.pos (by simp) (Ev.pos (by simp) (Ev.pos (by simp) (Ev.pos (by simp) (Ev.pos (by simp) AL)))))
  · have hs : s.size ≤ 20000 := by omega
    obtain ⟨N1, N2⟩ := Near_ev s x y hs
    obtain ⟨q, hq⟩ := rOffset_ev s x y hz
    have J2 : ∀ b : Bool, b = false → Ev (fun k => marginalialaw02_PlaceOffsets.j2 k s (near s x y : Int) 0 b x y) true := by
      intro b hb
      refine Ev.shift ?_
      simp only [marginalialaw02_PlaceOffsets.j2]
      exact Ev.neg (by simp [hb]) (Ev.bind N2 (Ev.pos (by simp) (Ev.pos (by simp) AL)))
    have J3 : ∀ b : Bool, b = false → Ev (fun k => marginalialaw02_PlaceOffsets.j3 k s (near s x y : Int) 0 b x y) true := by
      intro b hb
      refine Ev.shift ?_
      simp only [marginalialaw02_PlaceOffsets.j3]
      exact Ev.neg (by simp [hb]) (Ev.bind N2 (Ev.pos (by simp) (Ev.pos (by simp) AL)))
    have J1 : Ev (fun k => marginalialaw02_PlaceOffsets.j1 k s (ans (offs s x y)).1 (ans (offs s x y)).2 (near s x y : Int) 0 x y) true := by
      refine Ev.shift ?_
      simp only [marginalialaw02_PlaceOffsets.j1]
      refine Ev.bind hq ?_
      cases offs s x y with
      | none => exact Ev.neg (by simp) (Ev.pos (by first | rfl | simp [ans]) (J3 _ rfl))
      | some a => exact Ev.pos (by simp) (Ev.pos (by first | rfl | simp [ans]) (J2 _ rfl))
    have bad : Ev (fun k => place_Of.f k s a1) (0, 0, 2) → Ev (fun k => marginalialaw02_PlaceOffsets.j0 k a1 s 2 (ans (offs s x y)).1 (ans (offs s x y)).2 (near s x y : Int) 0 true x y 0 0) true := by
      intro _
      refine Ev.shift ?_
      simp only [marginalialaw02_PlaceOffsets.j0]
      exact Ev.pos (by simp) (Ev.neg (by simp) (Ev.pos (by simp) J1))
    have O := Offset_ev s x y hs
    by_cases h0 : a1 < 0
    · have F := Of_bad s a1 hs (.inl h0)
      exact Ev.bind F (Ev.bind O (Ev.bind N1 (Ev.neg (by omega) (Ev.pos h0 (bad F)))))
    · by_cases h1 : a1 > s.size
      · have F := Of_bad s a1 hs (.inr h1)
        exact Ev.bind F (Ev.bind O (Ev.bind N1 (Ev.neg (by omega) (Ev.neg h0 (Ev.pos h1 (bad F))))))
      · obtain ⟨n, rfl⟩ : ∃ n : Nat, a1 = n := ⟨a1.toNat, by omega⟩
        obtain ⟨f, hf⟩ := Lf_ex s n (by omega)
        have F := Of_ev s n f hs (by omega) hf
        obtain ⟨l, B1, B2, B3⟩ := Begins_ev s (by omega)
        have hb := B3 n (by omega)
        refine Ev.bind F (Ev.bind O (Ev.bind N1 (Ev.neg (by omega) (Ev.neg h0 (Ev.neg h1 (Ev.bind B1 (Ev.pos (by omega) (Ev.pos (by omega) ?_))))))))
        rw [hb]
        by_cases hh : hit s 0 n
        · rw [if_pos hh, decide_eq_true hh]
          have R := rof_ev s n f (by omega) (by omega) hf hh
          refine Ev.shift ?_
          simp only [marginalialaw02_PlaceOffsets.j0]
          refine Ev.neg (by decide) (Ev.bind R (Ev.neg (by simp) (Ev.pos (by simp) J1)))
        · rw [if_neg hh, decide_eq_false hh]
          rw [if_neg hh] at F
          exact bad F
theorem PlaceOffsets : ∀ (a0 : ByteArray) (a1 : Int) (a2 : S23), OpG.okS a0 → OpG.okI a1 → ok23 a2 → ∃ k, marginalialaw02_PlaceOffsets.f k a0 a1 a2.f0 a2.f1 = some true := fun a0 a1 a2 _ _ _ => PlaceOffsets0 a0 a1 a2.f0 a2.f1
end Go.Proofs.YtbioehoeoalalaaDoor.Pure
