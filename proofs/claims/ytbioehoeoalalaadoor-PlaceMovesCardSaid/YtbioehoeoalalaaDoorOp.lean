/- Openers of this seat's struct types (written by genop.py, a program of this session). -/
import Derived.Test.YtbioehoeoalalaaDoorOpG
import Derived.Test.YtbioehoeoalalaaDoorPx0
set_option linter.unusedVariables false
namespace Go.Proofs.YtbioehoeoalalaaDoor.P
open Go.RowKit Go.Proofs.YtbioehoeoalalaaDoor Go.Proofs.YtbioehoeoalalaaDoorW.PrintWords
variable {H : Type} {enc : TypeId × Value → H} {W : World}
structure S23 where
  f0 : Int
  f1 : Int
def k23 : Kd S23 := Kd.iso (Kd.pair (Kd.int .i64) (Kd.int .i64)) (fun x : S23 => (x.f0, x.f1))
theorem k23_open {w : World} {x : S23} {cs : List Value} (h : k23.K w x cs) : cs = [.int .i64 x.f0, .int .i64 x.f1] := by
  obtain ⟨_, _, rfl, rfl, rfl⟩ := h
  exact rfl
def ok23 (x : S23) : Prop := OpG.okI x.f0 ∧ OpG.okI x.f1
theorem open23 (n : Nat) : OpG.OpF enc Tryd.prog W n 23 k23 ok23 := by
  intro cs x h
  obtain ⟨xs, m, rfl, _, hcl, hxl, hf⟩ := DataW.trod_struct Tryd.underlying23 h
  have hcs : cs.length = 2 := hcl.trans (by kernel_rfl)
  have e0 : DataW.trod enc Tryd.prog W 0 (fun _ => true) true m 3 ((cs.drop 0).take (Tryd.prog.cellsOf 3)) = xs[0]? := hf 0 _ rfl
  rw [show Tryd.prog.cellsOf 3 = 1 by kernel_rfl] at e0
  rw [List.getElem?_eq_getElem (by rw [hxl]; decide)] at e0
  obtain ⟨a0, c0, o0⟩ := ((OpG.OpF.int Tryd.underlying3) : OpG.OpF enc Tryd.prog W m 3 (Kd.int .i64) OpG.okI) _ _ e0
  have e1 : DataW.trod enc Tryd.prog W 0 (fun _ => true) true m 3 ((cs.drop 1).take (Tryd.prog.cellsOf 3)) = xs[1]? := hf 1 _ rfl
  rw [show Tryd.prog.cellsOf 3 = 1 by kernel_rfl] at e1
  rw [List.getElem?_eq_getElem (by rw [hxl]; decide)] at e1
  obtain ⟨a1, c1, o1⟩ := ((OpG.OpF.int Tryd.underlying3) : OpG.OpF enc Tryd.prog W m 3 (Kd.int .i64) OpG.okI) _ _ e1
  have hsp : cs = ((cs.drop 0).take 1) ++ ((cs.drop 1).take 1) := by
    obtain ⟨u0, u1, rfl⟩ : ∃ u0 u1, cs = [u0, u1] := by
      clear e0 h hf hcl e1 c0 c1
      match cs, hcs with
      | [u0, u1], _ => exact ⟨u0, u1, rfl⟩
    rfl
  refine ⟨⟨a0, a1⟩, ?_, o0, o1⟩
  rw [hsp]
  exact (show k23.K W _ _ from ⟨_, _, rfl, c0, c1⟩)
def ok73 (x : S73) : Prop := OpG.okI x.f0 ∧ OpG.okI x.f1 ∧ OpG.okS x.f2
theorem open73 (n : Nat) : OpG.OpF enc Tryd.prog W n 73 k73 ok73 := by
  intro cs x h
  obtain ⟨xs, m, rfl, _, hcl, hxl, hf⟩ := DataW.trod_struct Tryd.underlying73 h
  have hcs : cs.length = 3 := hcl.trans (by kernel_rfl)
  have e0 : DataW.trod enc Tryd.prog W 0 (fun _ => true) true m 3 ((cs.drop 0).take (Tryd.prog.cellsOf 3)) = xs[0]? := hf 0 _ rfl
  rw [show Tryd.prog.cellsOf 3 = 1 by kernel_rfl] at e0
  rw [List.getElem?_eq_getElem (by rw [hxl]; decide)] at e0
  obtain ⟨a0, c0, o0⟩ := ((OpG.OpF.int Tryd.underlying3) : OpG.OpF enc Tryd.prog W m 3 (Kd.int .i64) OpG.okI) _ _ e0
  have e1 : DataW.trod enc Tryd.prog W 0 (fun _ => true) true m 3 ((cs.drop 1).take (Tryd.prog.cellsOf 3)) = xs[1]? := hf 1 _ rfl
  rw [show Tryd.prog.cellsOf 3 = 1 by kernel_rfl] at e1
  rw [List.getElem?_eq_getElem (by rw [hxl]; decide)] at e1
  obtain ⟨a1, c1, o1⟩ := ((OpG.OpF.int Tryd.underlying3) : OpG.OpF enc Tryd.prog W m 3 (Kd.int .i64) OpG.okI) _ _ e1
  have e2 : DataW.trod enc Tryd.prog W 0 (fun _ => true) true m 9 ((cs.drop 2).take (Tryd.prog.cellsOf 9)) = xs[2]? := hf 2 _ rfl
  rw [show Tryd.prog.cellsOf 9 = 1 by kernel_rfl] at e2
  rw [List.getElem?_eq_getElem (by rw [hxl]; decide)] at e2
  obtain ⟨a2, c2, o2⟩ := ((OpG.OpF.string Tryd.underlying9) : OpG.OpF enc Tryd.prog W m 9 Kd.string OpG.okS) _ _ e2
  have hsp : cs = ((cs.drop 0).take 1) ++ (((cs.drop 1).take 1) ++ ((cs.drop 2).take 1)) := by
    obtain ⟨u0, u1, u2, rfl⟩ : ∃ u0 u1 u2, cs = [u0, u1, u2] := by
      clear e0 h hf hcl e1 e2 c0 c1 c2
      match cs, hcs with
      | [u0, u1, u2], _ => exact ⟨u0, u1, u2, rfl⟩
    rfl
  refine ⟨⟨a0, a1, a2⟩, ?_, o0, o1, o2⟩
  rw [hsp]
  exact (show k73.K W _ _ from ⟨_, _, rfl, c0, ⟨_, _, rfl, c1, c2⟩⟩)
end Go.Proofs.YtbioehoeoalalaaDoor.P
