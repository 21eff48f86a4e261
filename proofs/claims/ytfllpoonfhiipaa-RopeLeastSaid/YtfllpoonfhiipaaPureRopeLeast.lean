/- Apply of Diff to the old string is the new one, and its edit is at most as long as any other single edit that does it: the law returns true. -/
import Derived.Test.YtfllpoonfhiipaaRopeSp2
set_option linter.unusedVariables false
namespace Go.Proofs.Ytfllpoonfhiipaa.Pure
open Go.RowKit Go.Proofs.Ytfllpoonfhiipaa Go.Proofs.Ytfllpoonfhiipaa.P Go.Proofs.YtfllpoonfhiipaaW.PrintWords
theorem RopeLeast : ∀ (a0 : ByteArray) (a1 : S47), OpG.okS a0 → ok47 a1 → ∃ k, marginalialaw01_RopeLeast.f k a0 a1.f0 a1.f1 a1.f2 = some true := by
  intro a0 a1 _ ha1
  apply Ev.rounds
  have hf : Fit (cut 2000 [a1]) := (cut_fine (fun e he => by rw [List.mem_singleton.1 he]; exact ha1)).fit (by omega)
  have hz := short_size a0
  unfold marginalialaw01_RopeLeast.f
  refine Ev.bind1 (Short_eq a0) (Ev.bind (Cut_ev [a1] 2000 (by simp)) ?_)
  have hc : cut 2000 [a1] = [cutE 2000 a1] := rfl
  rw [hc] at hf ⊢
  generalize cutE 2000 a1 = e at hf ⊢
  generalize short a0 = s at hz ⊢
  refine Ev.bind (apply_ev s [e] (by omega) hf) ?_
  by_cases h : chk s.size [e] = 0
  · simp only [if_pos h]
    obtain ⟨h1, h2, h3, h4⟩ := chk_ok h
    have hl := app_length s [e] 0 h3 (by omega) (by omega)
    have hxs : (ba (app s 0 [e])).size ≤ 20000 := by rw [ba_size]; omega
    have hleast := diff_least s e h3 (ba (app s 0 [e])) rfl
    generalize ba (app s 0 [e]) = x at hxs hleast ⊢
    refine Ev.bind (diff_ev s x (by omega) (by omega)) ?_
    simp only [if_neg (show ¬ max s.size x.size > 20000 by omega)]
    have hdf : Fit (diff s x) := by
      unfold diff
      split
      · exact ⟨by simp, by simp [newSum]⟩
      · refine ⟨by simp, ?_⟩
        simp only [newSum, ed, List.map_cons, List.map_nil, List.sum_cons, List.sum_nil, ByteArray.size_extract]
        omega
    have hchk : chk s.size (diff s x) = 0 ∧ ba (app s 0 (diff s x)) = x := by
      unfold diff
      by_cases g : s.toList = x.toList
      · rw [if_pos g]
        have e0 := toList_inj g
        subst e0
        refine ⟨?_, ?_⟩
        · unfold chk
          rw [if_neg (by omega), if_neg (by simp), show sp s.size 0 [] = true from rfl, if_pos rfl, if_neg]
          simp only [spanSum, newSum, List.map_nil, List.sum_nil]
          omega
        · simp only [app, cutS_eq, Int.toNat_zero, List.drop_zero, Int.toNat_natCast]
          rw [List.take_of_length_le (by rw [Ut.size_data]; exact Nat.le_refl _), list_ba]
      · rw [if_neg g]
        have hb := suf_bound s x
        refine ⟨diff_chk s x (by omega) hxs _ _ hb, ?_⟩
        rw [diff_app s x _ _ hb (pre_take _ _) (suf_drop s x _ (Nat.min_le_left _ _)), list_ba]
    refine Ev.bind (apply_ev s (diff s x) (by omega) hdf) ?_
    simp only [hchk.1, hchk.2]
    refine Ev.pos (by simp) (Ev.pos (by simp) (Ev.pos (by simp) ?_))
    unfold diff
    by_cases g : s.toList = x.toList
    · simp only [if_pos g]
      refine Ev.neg (by simp) (Ev.shift ?_)
      simp only [marginalialaw01_RopeLeast.j0]
      exact Ev.neg (by simp [g]) (Ev.pos (by simp) (Ev.bind1 (a := true) rfl (Ev.now _)))
    · simp only [if_neg g]
      refine Ev.neg (by simp) (Ev.shift ?_)
      simp only [marginalialaw01_RopeLeast.j0]
      refine Ev.neg (by simp [g]) (Ev.neg (by simp) (Ev.pos (by simp) (Ev.pos (by simp) ?_)))
      have r1 : ∀ (y : Ed), rd_T47 [y] 0 = y := fun y => rfl
      rw [r1, r1]
      have hb := suf_bound s x
      obtain ⟨q1, q2, q3, _⟩ := sp_cons h3
      have hns := hf.2
      simp only [newSum, List.map_cons, List.map_nil, List.sum_cons, List.sum_nil] at hns
      have hes := extract_size x (pre s.data.toList x.data.toList) (x.size - suf s x (pre s.data.toList x.data.toList)) (by omega) (by omega)
      refine Ev.pos ?_ (Ev.bind1 (a := true) rfl (Ev.now _))
      simp only [ed]
      rw [w64 (n := e.f1 - e.f0) (by omega) (by omega), w64 (n := e.f1 - e.f0 + _) (by omega) (by omega), w64 (n := (s.size : Int) - _ - _) (by omega) (by omega), w64 (by omega) (by omega)]
      omega
  · simp only [if_neg h]
    exact (Ev.bind1 (a := true) rfl (Ev.now _))
end Go.Proofs.Ytfllpoonfhiipaa.Pure
