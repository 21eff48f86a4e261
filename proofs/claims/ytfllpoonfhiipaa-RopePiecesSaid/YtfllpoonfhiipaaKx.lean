/- More on the printed words: a slice that was written out as a literal reads as its list. -/
import Derived.Test.YtfllpoonfhiipaaWMore
import Derived.Test.YtfllpoonfhiipaaBld
set_option linter.unusedVariables false
namespace Go.Proofs.Ytfllpoonfhiipaa.Kx
open Go.RowKit Go.Proofs.YtfllpoonfhiipaaW.PrintWords
theorem C_lit {α : Type} (d : Kd α) {W : World} {g t : Nat} {fz : Nat × Nat} {l : List α} {cs : List Value} (hb : W.heap[g]? = some (.cells cs.toArray t fz)) (hr : Reps (d.K W) d.sz l cs) (hm : l.length ≤ 9223372036854775807) :
    d.C W (some ⟨g, 0, none⟩) l.length l := by
  refine ⟨rfl, hm, fun _ => ⟨_, rfl, fun j p hj => ⟨(cs.drop (j * d.sz)).take d.sz, ?_, hr.2 j p hj, fun i u hu => ?_⟩⟩⟩
  · have hjl : j < l.length := (List.getElem?_eq_some_iff.1 hj).1
    have h1 : (j + 1) * d.sz ≤ l.length * d.sz := Nat.mul_le_mul_right _ hjl
    rw [List.length_take, List.length_drop, hr.1]
    rw [Nat.add_mul, Nat.one_mul] at h1
    omega
  · have hi : i < d.sz := by
      have := (List.getElem?_eq_some_iff.1 hu).1
      rw [List.length_take] at this
      omega
    rw [List.getElem?_take_of_lt hi, List.getElem?_drop] at hu
    rw [show (⟨g, 0, none⟩ : Addr).add (j * d.sz + i) = ⟨g, j * d.sz + i, none⟩ by unfold Addr.add; simp; try omega, Lib.cell_of_heap hb]
    simpa using hu
theorem Reps.cons {α : Type} {R : α → List Value → Prop} {size : Nat} {ps : List α} {cs c : List Value} {p : α} (hp : R p c) (hc : c.length = size) (h : Reps R size ps cs) : Reps R size (p :: ps) (c ++ cs) := by
  have h1 : Reps R size [p] c := by
    have := Reps.snoc (Reps.none R size) hp hc
    simpa using this
  have := Kd.reps_append h1 h
  simpa using this
theorem below_step {w w1 w2 : World} (h : Below w.heap.size w w1) (h2 : Below w1.heap.size w1 w2) : Below w.heap.size w w2 := h.trans (h2.mono h.size)
theorem Drawn0.below {w w1 : World} (h : Drawn0 w w1) : Below w.heap.size w w1 := by
  obtain ⟨n, rfl⟩ := h.out
  exact pw_below_drewN (Below.refl _ _) n
end Go.Proofs.Ytfllpoonfhiipaa.Kx
