/- Offset of Of is the offset, and Of of Offset the place: the law returns true. -/
import Derived.Test.YtbioehoeoalalaaDoorPlaceSp8
import Derived.Test.YtbioehoeoalalaaDoorOp
import Derived.Test.YtbioehoeoalalaaDoorPx17
set_option linter.unusedVariables false
set_option linter.unusedSimpArgs false
namespace Go.Proofs.YtbioehoeoalalaaDoor.Pure
open Go.RowKit Go.Proofs.YtbioehoeoalalaaDoor Go.Proofs.YtbioehoeoalalaaDoor.P Go.Proofs.YtbioehoeoalalaaDoorW.PrintWords Go.Proofs.YtbioehoeoalalaaDoorW.PrintLast Go.Proofs.YtbioehoeoalalaaDoorW.PrintMore
theorem back_place (s : ByteArray) (x y : Int) (hs : s.size ≤ 20000) : Ev (fun k => marginalialaw02_PlaceBack.j0 k s x y) true := by
  have AL : Ev (fun k => (marginalialaw02_alive.f k).bind fun t => (some t)) true := Ev.bind alive_ev (Ev.now _)
  have hn := near_le s x y
  refine Ev.shift ?_
  simp only [marginalialaw02_PlaceBack.j0]
  refine Ev.bind (Offset_ev s x y hs) (Ev.bind (Near_ev s x y hs).1 (Ev.pos rfl (Ev.neg (by simp only; omega) ?_)))
  simp only
  rw [decide_eq_false (by omega : ¬ (near s x y : Int) > (s.size : Int))]
  refine Ev.shift ?_
  simp only [marginalialaw02_PlaceBack.j1]
  refine Ev.neg (by decide) ?_
  cases h : offs s x y with
  | none => exact Ev.neg (by simp [ans]) (Ev.pos (by simp [ans]) AL)
  | some o =>
    obtain ⟨ho, hh, f, hL, e1, e2, e3⟩ := of_offs s x y o h
    have F := Of_ev s o f hs ho hL
    rw [if_pos hh] at F
    refine Ev.pos rfl (Ev.bind F (Ev.pos rfl (Ev.pos (by simp [e1, e2]) (Ev.pos ?_ AL))))
    rw [e3]
    rfl
theorem PlaceBack0 (a0 : ByteArray) (a1 x y : Int) (h0 : 0 ≤ a1) (h1 : a1 ≤ 65535) : ∃ k, marginalialaw02_PlaceBack.f k a0 a1 x y = some true := by
  apply Ev.rounds
  have hz := short_size a0
  unfold marginalialaw02_PlaceBack.f
  refine Ev.bind1 (Short_eq a0) ?_
  generalize short a0 = s at hz ⊢
  have AL : Ev (fun k => (marginalialaw02_alive.f k).bind fun t => (some t)) true := Ev.bind alive_ev (Ev.now _)
  by_cases hL : s.size > 20000
  · exact Ev.pos (by omega) AL
  · have hs : s.size ≤ 20000 := by omega
    have e0 : wrap64 ((s.size : Int) + 1) = ((s.size + 1 : Nat) : Int) := by rw [w64 (by omega) (by omega)]; omega
    have e1 : Int.tmod (wrap64 a1) (wrap64 ((s.size : Int) + 1)) = ((a1.toNat % (s.size + 1) : Nat) : Int) := by
      rw [e0, w64 (by omega) (by omega)]
      obtain ⟨n, rfl⟩ : ∃ n : Nat, a1 = n := ⟨a1.toNat, by omega⟩
      rfl
    have hlt : a1.toNat % (s.size + 1) < s.size + 1 := Nat.mod_lt _ (by omega)
    rw [e1, e0]
    generalize a1.toNat % (s.size + 1) = n at hlt ⊢
    obtain ⟨f, hf⟩ := Lf_ex s n (by omega)
    have F := Of_ev s n f hs (by omega) hf
    have J := back_place s x y hs
    refine Ev.neg (by omega) (Ev.neg (by omega) ?_)
    by_cases hh : hit s 0 n
    · rw [if_pos hh] at F
      obtain ⟨g1, g2⟩ := offs_of s n f (by omega) hf hh
      have O := Offset_ev s (nls s n : Int) ((wk s n f 0).2 : Int) hs
      have N := (Near_ev s (nls s n : Int) ((wk s n f 0).2 : Int) hs).1
      rw [g1] at O
      rw [g2] at N
      exact Ev.bind F (Ev.pos rfl (Ev.bind O (Ev.bind N (Ev.pos rfl (Ev.pos rfl (Ev.pos rfl (Ev.pos rfl J)))))))
    · rw [if_neg hh] at F
      obtain ⟨l, B1, B2, B3⟩ := Begins_ev s (by omega)
      have hb := B3 n (by omega)
      rw [decide_eq_false hh] at hb
      exact Ev.bind F (Ev.neg (by simp) (Ev.pos rfl (Ev.bind B1 (Ev.pos (by omega) (Ev.pos (by omega) (Ev.neg (by rw [hb]; decide) J))))))
theorem PlaceBack : ∀ (a0 : ByteArray) (a1 : Int) (a2 : S23), OpG.okS a0 → (fun a => 0 ≤ a ∧ a ≤ 65535) a1 → ok23 a2 → ∃ k, marginalialaw02_PlaceBack.f k a0 a1 a2.f0 a2.f1 = some true := fun a0 a1 a2 _ h _ => PlaceBack0 a0 a1 a2.f0 a2.f1 h.1 h.2
end Go.Proofs.YtbioehoeoalalaaDoor.Pure
