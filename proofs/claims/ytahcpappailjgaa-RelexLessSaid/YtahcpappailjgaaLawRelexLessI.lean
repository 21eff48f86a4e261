/- The law RelexLess of marginalialaw04 returns true for every input, and its arguments read as before (statement RelexLessSaid; no condition). The text is by lawrow.py, a program of this session. -/
import Derived.Test.YtahcpappailjgaaRows
import Derived.Test.YtahcpappailjgaaI4
import Derived.WalkKit
import Derived.ProofKit
import Derived.OpenShut
import Derived.ShutString
import Derived.ChangeOld
import Derived.Below
import Derived.SizedLaws
namespace Go.Proofs.Ytahcpappailjgaa.relexLess
open Go.ChangeShapes Go.WideShapes Go.ChangeAt Go.RowKit Go.Proofs.Ytahcpappailjgaa Go.Proofs.Ytahcpappailjgaa.P Go.Proofs.YtahcpappailjgaaW.PrintWords
open Go.ChangeMaps (open_string shut_string)
set_option linter.unusedVariables false
theorem own : ownKnob Try.prog.godebug = none := by kernel_rfl
theorem laidOut : laidOutB Try.prog = true := by kernel_rfl
set_option maxRecDepth 100000 in
theorem lifted (os : Os) (started : os.Started) (H : Type) (enc : TypeId × Value → H) :
    ReturnsInHanded {} Try.checked os 8 .any (Rows.relexLessSpec.pre6 enc Try.prog Try.f8 Rows.relexLessRow.domain false) (Rows.relexLessSpec.post enc Try.prog Try.f8 false true false false) := by
  refine returnsInHanded_of_change_sized (C := Try.checked) own started (by kernel_rfl) Try.func8
    (ChangeSpec.witness6 (enc := enc) (C := Try.checked) false ⟨#[], #[.string ByteArray.empty, .string ByteArray.empty, .string ByteArray.empty, .agg #[.int .i64 0, .int .i64 0, .string ByteArray.empty]], []⟩ 8 (by kernel_rfl) (by kernel_rfl) (by kernel_rfl) (by kernel_rfl)) ?_
  intro W base args ds gs before hval0 hW hcnd hsz0 _
  have hval : ∀ (j : Nat) t v, Try.f8.params[j]? = some t → args[j]? = some v → Value.okWide Try.prog W .any base t v := hval0
  have hW' := hW
  obtain ⟨p, q, hA0, hV, rfl, hfz, hnd⟩ := hW
  have hA : DataW.TrodAll enc Try.prog W 0 (fun _ => true) true Try.f8.params.toList args.toList ds p := hA0
  rw [Try.params8] at hA hval
  obtain ⟨v0, vs0, d0, ds0, p0, q0, hargs, rfl, rfl, h0, r0⟩ := trodAll_cons hA
  obtain ⟨v1, vs1, d1, ds1, p1, q1, rfl, rfl, rfl, h1, r1⟩ := trodAll_cons r0
  obtain ⟨v2, vs2, d2, ds2, p2, q2, rfl, rfl, rfl, h2, r2⟩ := trodAll_cons r1
  obtain ⟨v3, vs3, d3, ds3, p3, q3, rfl, rfl, rfl, h3, r3⟩ := trodAll_cons r2
  obtain ⟨rfl, rfl, rfl⟩ := trodAll_nil r3
  obtain rfl : args = #[v0, v1, v2, v3] := by cases args; simp_all
  obtain ⟨rfl, rfl⟩ := trodVars_none hV
  have k0 := h0
  have lt0 : ∀ x ∈ p0, x.block < W.heap.size := by obtain ⟨m, hm⟩ := k0; exact DataW.trod_lt m _ _ _ hm
  obtain ⟨m0, hm0⟩ := h0
  obtain ⟨a0, K0, ok0⟩ := ((OpG.OpF.string Try.underlying9) : OpG.OpF enc Try.prog W m0 9 Kd.string OpG.okS) _ _ hm0
  obtain ⟨x0, rfl, e, e2, w0⟩ := open_string Try.underlying9 (hval 0 9 v0 rfl rfl) k0
  obtain rfl : a0 = x0 := by
    have z_ : (.string x0 : Value).cells.toList = [.string a0] := K0
    simp [Value.cells] at z_
    exact z_.symm
  clear e e2
  have k1 := h1
  have lt1 : ∀ x ∈ p1, x.block < W.heap.size := by obtain ⟨m, hm⟩ := k1; exact DataW.trod_lt m _ _ _ hm
  obtain ⟨m1, hm1⟩ := h1
  obtain ⟨a1, K1, ok1⟩ := ((OpG.OpF.string Try.underlying9) : OpG.OpF enc Try.prog W m1 9 Kd.string OpG.okS) _ _ hm1
  obtain ⟨x1, rfl, e, e2, w1⟩ := open_string Try.underlying9 (hval 1 9 v1 rfl rfl) k1
  obtain rfl : a1 = x1 := by
    have z_ : (.string x1 : Value).cells.toList = [.string a1] := K1
    simp [Value.cells] at z_
    exact z_.symm
  clear e e2
  have k2 := h2
  have lt2 : ∀ x ∈ p2, x.block < W.heap.size := by obtain ⟨m, hm⟩ := k2; exact DataW.trod_lt m _ _ _ hm
  obtain ⟨m2, hm2⟩ := h2
  obtain ⟨a2, K2, ok2⟩ := ((OpG.OpF.string Try.underlying9) : OpG.OpF enc Try.prog W m2 9 Kd.string OpG.okS) _ _ hm2
  obtain ⟨x2, rfl, e, e2, w2⟩ := open_string Try.underlying9 (hval 2 9 v2 rfl rfl) k2
  obtain rfl : a2 = x2 := by
    have z_ : (.string x2 : Value).cells.toList = [.string a2] := K2
    simp [Value.cells] at z_
    exact z_.symm
  clear e e2
  have k3 := h3
  have lt3 : ∀ x ∈ p3, x.block < W.heap.size := by obtain ⟨m, hm⟩ := k3; exact DataW.trod_lt m _ _ _ hm
  obtain ⟨m3, hm3⟩ := h3
  obtain ⟨a3, K3, ok3⟩ := ((open39 _) : OpG.OpF enc Try.prog W m3 39 k39 ok39) _ _ hm3
  obtain ⟨cs3, rfl, _⟩ := okWide_struct Try.underlying39 (hval 3 39 v3 rfl rfl)
  obtain rfl : cs3 = #[.int .i64 a3.f0, .int .i64 a3.f1, .string a3.f2] := OpG.agg_val (k39_open K3)
  clear hA0 hval0 hsz0
  obtain ⟨kk, hk⟩ := Pure.RelexLess a0 a1 a2 a3 ok0 ok1 ok2 ok3
  refine (marginalialaw04_RelexLess.calls kk a0 a1 a2 a3.f0 a3.f1 a3.f2 true W  hk).mono fun e W' ⟨he, bel⟩ => ?_
  subst he
  exact ⟨_, rfl, _, _, _, [], _, [], hW', trodAll_mk1 (shut_bool Try.underlying4 _), (trodAll_cons_mk (Below.trod laidOut (by kernel_rfl) (of_decide_eq_true (by kernel_rfl)) k0 bel lt0) (trodAll_cons_mk (Below.trod laidOut (by kernel_rfl) (of_decide_eq_true (by kernel_rfl)) k1 bel lt1) (trodAll_cons_mk (Below.trod laidOut (by kernel_rfl) (of_decide_eq_true (by kernel_rfl)) k2 bel lt2) (trodAll_cons_mk (Below.trod laidOut (by kernel_rfl) (of_decide_eq_true (by kernel_rfl)) k3 bel lt3) trodAll_mk0)))), rfl, bel.frame _, fun h => by cases h⟩
theorem over : Rows.relexLessRow.holds Try.pinned (OpenSpec.ofChange Rows.relexLessSpec) :=
  OpenClaim.holds_of_wide 8 Try.f8 rfl rfl rfl rfl rfl rfl rfl ⟨rfl, rfl, rfl, rfl, rfl⟩ rfl rfl rfl rfl rfl (by kernel_rfl) Try.func8 (by kernel_rfl)
    (of_decide_eq_true (by kernel_rfl)) (by unfold Func.isWrapper; first | (rw [if_pos (by decide +kernel)]; kernel_rfl) | (rw [if_neg (by decide +kernel)]; exact ⟨rfl, rfl⟩))
    (fun os started H enc _ => lifted os started H enc)
end Go.Proofs.Ytahcpappailjgaa.relexLess
namespace Go.Proofs.Ytahcpappailjgaa
theorem relexLess_holds : Rows.RelexLessSaid := relexLess.over
#print axioms relexLess_holds
end Go.Proofs.Ytahcpappailjgaa
