/- The law RelexThen of marginalialaw04 returns true for every input, and its arguments read as before (statement RelexThenSaid; no condition). The text is by lawrow.py, a program of this session. -/
import Derived.Test.YtahcpappailjgaaRows
import Derived.Test.YtahcpappailjgaaK6
import Derived.WalkKit
import Derived.ProofKit
import Derived.OpenShut
import Derived.ShutString
import Derived.ChangeOld
import Derived.Below
import Derived.SizedLaws
namespace Go.Proofs.Ytahcpappailjgaa.relexThen
open Go.ChangeShapes Go.WideShapes Go.ChangeAt Go.RowKit Go.Proofs.Ytahcpappailjgaa Go.Proofs.Ytahcpappailjgaa.P Go.Proofs.YtahcpappailjgaaW.PrintWords
open Go.ChangeMaps (open_string shut_string)
set_option linter.unusedVariables false
theorem own : ownKnob Try.prog.godebug = none := by kernel_rfl
theorem laidOut : laidOutB Try.prog = true := by kernel_rfl
set_option maxHeartbeats 4000000 in
set_option maxRecDepth 100000 in
theorem lifted (os : Os) (started : os.Started) (H : Type) (enc : TypeId × Value → H) :
    ReturnsInHanded {} Try.checked os 9 .any (Rows.relexThenSpec.pre6 enc Try.prog Try.f9 Rows.relexThenRow.domain false) (Rows.relexThenSpec.post enc Try.prog Try.f9 false true false false) := by
  refine returnsInHanded_of_change_sized (C := Try.checked) own started (by kernel_rfl) Try.func9
    (ChangeSpec.witness6 (enc := enc) (C := Try.checked) false ⟨#[], #[.string ByteArray.empty, .slice none 0 0, .slice none 0 0], []⟩ 8 (by kernel_rfl) (by kernel_rfl) (by kernel_rfl) (by kernel_rfl)) ?_
  intro W base args ds gs before hval0 hW hcnd hsz0 _
  have hval : ∀ (j : Nat) t v, Try.f9.params[j]? = some t → args[j]? = some v → Value.okWide Try.prog W .any base t v := hval0
  have hW' := hW
  obtain ⟨p, q, hA0, hV, rfl, hfz, hnd⟩ := hW
  have hA : DataW.TrodAll enc Try.prog W 0 (fun _ => true) true Try.f9.params.toList args.toList ds p := hA0
  rw [Try.params9] at hA hval
  obtain ⟨v0, vs0, d0, ds0, p0, q0, hargs, rfl, rfl, h0, r0⟩ := trodAll_cons hA
  obtain ⟨v1, vs1, d1, ds1, p1, q1, rfl, rfl, rfl, h1, r1⟩ := trodAll_cons r0
  obtain ⟨v2, vs2, d2, ds2, p2, q2, rfl, rfl, rfl, h2, r2⟩ := trodAll_cons r1
  obtain ⟨rfl, rfl, rfl⟩ := trodAll_nil r2
  obtain rfl : args = #[v0, v1, v2] := by cases args; simp_all
  obtain ⟨rfl, rfl⟩ := trodVars_none hV
  have k0 := h0
  have lt0 : ∀ x ∈ p0, x.block < W.heap.size := by obtain ⟨m, hm⟩ := k0; exact DataW.trod_lt m _ _ _ hm
  obtain ⟨m0, hm0⟩ := h0
  obtain ⟨a0, K0, ok0⟩ := ((OpG.OpF.string Try.underlying9) : OpG.OpF enc Try.prog W m0 9 Kd.string OpG.okS) _ _ hm0
  obtain ⟨x0, rfl, e, e2, w0⟩ := open_string Try.underlying9 (hval 0 9 v0 rfl rfl) k0
  obtain rfl : a0 = x0 := by
    have z_ : (.string x0 : Value).cells.toList = [.string a0] := K0
    simp [Value.cells] at z_
    exact z_.symm
  clear e e2
  have k1 := h1
  have lt1 : ∀ x ∈ p1, x.block < W.heap.size := by obtain ⟨m, hm⟩ := k1; exact DataW.trod_lt m _ _ _ hm
  obtain ⟨m1, hm1⟩ := h1
  obtain ⟨a1, K1, ok1⟩ := ((OpG.OpF.slice Try.underlying23 (by kernel_rfl) (fun _ _ => (open39 _))) : OpG.OpF enc Try.prog W m1 23 (Kd.slice 39 k39) (fun l => l.length ≤ 9223372036854775807 ∧ ∀ a ∈ l, ok39 a)) _ _ hm1
  obtain ⟨A1, len1, c1, rfl⟩ := okWide_slice Try.underlying23 (hval 1 23 v1 rfl rfl)
  obtain ⟨rfl, hc1, hr1⟩ := OpG.slice_val K1
  have k2 := h2
  have lt2 : ∀ x ∈ p2, x.block < W.heap.size := by obtain ⟨m, hm⟩ := k2; exact DataW.trod_lt m _ _ _ hm
  obtain ⟨m2, hm2⟩ := h2
  obtain ⟨a2, K2, ok2⟩ := ((OpG.OpF.slice Try.underlying23 (by kernel_rfl) (fun _ _ => (open39 _))) : OpG.OpF enc Try.prog W m2 23 (Kd.slice 39 k39) (fun l => l.length ≤ 9223372036854775807 ∧ ∀ a ∈ l, ok39 a)) _ _ hm2
  obtain ⟨A2, len2, c2, rfl⟩ := okWide_slice Try.underlying23 (hval 2 23 v2 rfl rfl)
  obtain ⟨rfl, hc2, hr2⟩ := OpG.slice_val K2
  clear hA0 hval0 hsz0
  refine (Pure.RelexThen W a0 A1 c1 a1 A2 c2 a2 hr1 hc1 hr2 hc2 ok0 ok1 ok2).mono fun e W' ⟨he, bel⟩ => ?_
  subst he
  exact ⟨_, rfl, _, _, _, [], _, [], hW', trodAll_mk1 (shut_bool Try.underlying4 _), (trodAll_cons_mk (Below.trod laidOut (by kernel_rfl) (of_decide_eq_true (by kernel_rfl)) k0 bel lt0) (trodAll_cons_mk (Below.trod laidOut (by kernel_rfl) (of_decide_eq_true (by kernel_rfl)) k1 bel lt1) (trodAll_cons_mk (Below.trod laidOut (by kernel_rfl) (of_decide_eq_true (by kernel_rfl)) k2 bel lt2) trodAll_mk0))), rfl, bel.frame _, fun h => by cases h⟩
theorem over : Rows.relexThenRow.holds Try.pinned (OpenSpec.ofChange Rows.relexThenSpec) :=
  OpenClaim.holds_of_wide 9 Try.f9 rfl rfl rfl rfl rfl rfl rfl ⟨rfl, rfl, rfl, rfl, rfl⟩ rfl rfl rfl rfl rfl (by kernel_rfl) Try.func9 (by kernel_rfl)
    (of_decide_eq_true (by kernel_rfl)) (by unfold Func.isWrapper; first | (rw [if_pos (by decide +kernel)]; kernel_rfl) | (rw [if_neg (by decide +kernel)]; exact ⟨rfl, rfl⟩))
    (fun os started H enc _ => lifted os started H enc)
end Go.Proofs.Ytahcpappailjgaa.relexThen
namespace Go.Proofs.Ytahcpappailjgaa
theorem relexThen_holds : Rows.RelexThenSaid := relexThen.over
#print axioms relexThen_holds
end Go.Proofs.Ytahcpappailjgaa
