/- Openers of this seat's struct types (written by genop.py, a program of this session). -/
import Derived.Test.YtfllpoonfhiipaaOpG
import Derived.Test.YtfllpoonfhiipaaPx0
set_option linter.unusedVariables false
namespace Go.Proofs.Ytfllpoonfhiipaa.P
open Go.RowKit Go.Proofs.Ytfllpoonfhiipaa Go.Proofs.YtfllpoonfhiipaaW.PrintWords
variable {H : Type} {enc : TypeId × Value → H} {W : World}
def ok47 (x : S47) : Prop := OpG.okI x.f0 ∧ OpG.okI x.f1 ∧ OpG.okS x.f2
theorem open47 (n : Nat) : OpG.OpF enc Try.prog W n 47 k47 ok47 := by
  intro cs x h
  obtain ⟨xs, m, rfl, _, hcl, hxl, hf⟩ := DataW.trod_struct Try.underlying47 h
  have hcs : cs.length = 3 := hcl.trans (by kernel_rfl)
  have e0 : DataW.trod enc Try.prog W 0 (fun _ => true) true m 3 ((cs.drop 0).take (Try.prog.cellsOf 3)) = xs[0]? := hf 0 _ rfl
  rw [show Try.prog.cellsOf 3 = 1 by kernel_rfl] at e0
  rw [List.getElem?_eq_getElem (by rw [hxl]; decide)] at e0
  obtain ⟨a0, c0, o0⟩ := ((OpG.OpF.int Try.underlying3) : OpG.OpF enc Try.prog W m 3 (Kd.int .i64) OpG.okI) _ _ e0
  have e1 : DataW.trod enc Try.prog W 0 (fun _ => true) true m 3 ((cs.drop 1).take (Try.prog.cellsOf 3)) = xs[1]? := hf 1 _ rfl
  rw [show Try.prog.cellsOf 3 = 1 by kernel_rfl] at e1
  rw [List.getElem?_eq_getElem (by rw [hxl]; decide)] at e1
  obtain ⟨a1, c1, o1⟩ := ((OpG.OpF.int Try.underlying3) : OpG.OpF enc Try.prog W m 3 (Kd.int .i64) OpG.okI) _ _ e1
  have e2 : DataW.trod enc Try.prog W 0 (fun _ => true) true m 9 ((cs.drop 2).take (Try.prog.cellsOf 9)) = xs[2]? := hf 2 _ rfl
  rw [show Try.prog.cellsOf 9 = 1 by kernel_rfl] at e2
  rw [List.getElem?_eq_getElem (by rw [hxl]; decide)] at e2
  obtain ⟨a2, c2, o2⟩ := ((OpG.OpF.string Try.underlying9) : OpG.OpF enc Try.prog W m 9 Kd.string OpG.okS) _ _ e2
  have hsp : cs = ((cs.drop 0).take 1) ++ (((cs.drop 1).take 1) ++ ((cs.drop 2).take 1)) := by
    obtain ⟨u0, u1, u2, rfl⟩ : ∃ u0 u1 u2, cs = [u0, u1, u2] := by
      clear e0 h hf hcl e1 e2 c0 c1 c2
      match cs, hcs with
      | [u0, u1, u2], _ => exact ⟨u0, u1, u2, rfl⟩
    rfl
  refine ⟨⟨a0, a1, a2⟩, ?_, o0, o1, o2⟩
  rw [hsp]
  exact (show k47.K W _ _ from ⟨_, _, rfl, c0, ⟨_, _, rfl, c1, c2⟩⟩)
def ok49 (x : S49) : Prop := OpG.okI x.f0 ∧ OpG.okI x.f1
theorem open49 (n : Nat) : OpG.OpF enc Try.prog W n 49 k49 ok49 := by
  intro cs x h
  obtain ⟨xs, m, rfl, _, hcl, hxl, hf⟩ := DataW.trod_struct Try.underlying49 h
  have hcs : cs.length = 2 := hcl.trans (by kernel_rfl)
  have e0 : DataW.trod enc Try.prog W 0 (fun _ => true) true m 3 ((cs.drop 0).take (Try.prog.cellsOf 3)) = xs[0]? := hf 0 _ rfl
  rw [show Try.prog.cellsOf 3 = 1 by kernel_rfl] at e0
  rw [List.getElem?_eq_getElem (by rw [hxl]; decide)] at e0
  obtain ⟨a0, c0, o0⟩ := ((OpG.OpF.int Try.underlying3) : OpG.OpF enc Try.prog W m 3 (Kd.int .i64) OpG.okI) _ _ e0
  have e1 : DataW.trod enc Try.prog W 0 (fun _ => true) true m 3 ((cs.drop 1).take (Try.prog.cellsOf 3)) = xs[1]? := hf 1 _ rfl
  rw [show Try.prog.cellsOf 3 = 1 by kernel_rfl] at e1
  rw [List.getElem?_eq_getElem (by rw [hxl]; decide)] at e1
  obtain ⟨a1, c1, o1⟩ := ((OpG.OpF.int Try.underlying3) : OpG.OpF enc Try.prog W m 3 (Kd.int .i64) OpG.okI) _ _ e1
  have hsp : cs = ((cs.drop 0).take 1) ++ ((cs.drop 1).take 1) := by
    obtain ⟨u0, u1, rfl⟩ : ∃ u0 u1, cs = [u0, u1] := by
      clear e0 h hf hcl e1 c0 c1
      match cs, hcs with
      | [u0, u1], _ => exact ⟨u0, u1, rfl⟩
    rfl
  refine ⟨⟨a0, a1⟩, ?_, o0, o1⟩
  rw [hsp]
  exact (show k49.K W _ _ from ⟨_, _, rfl, c0, c1⟩)
end Go.Proofs.Ytfllpoonfhiipaa.P
