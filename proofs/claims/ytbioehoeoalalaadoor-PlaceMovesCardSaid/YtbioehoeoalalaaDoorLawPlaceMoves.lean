/- The law PlaceMoves of marginalialaw02 returns true for every input, and its arguments read as before: the row (two tables of unicode/utf8 are listed) and its tied card (statement PlaceMovesCardSaid). The text is by lawtied.py, a program of this session. -/
import Derived.Test.YtbioehoeoalalaaDoorLaid
import Derived.Test.YtbioehoeoalalaaDoorOp
import Derived.Test.YtbioehoeoalalaaDoorPx22
import Derived.Test.YtbioehoeoalalaaDoorPurePlaceMoves
import Derived.WalkKit
import Derived.ProofKit
import Derived.OpenShut
import Derived.ShutString
import Derived.ChangeOld
import Derived.Below
import Derived.SizedLaws
namespace Go.Proofs.YtbioehoeoalalaaDoor.placeMoves
open Go.ChangeShapes Go.WideShapes Go.ChangeAt Go.RowKit Go.Proofs.YtbioehoeoalalaaDoor Go.Proofs.YtbioehoeoalalaaDoor.P Go.Proofs.YtbioehoeoalalaaDoorW.PrintWords
open Go.ChangeMaps (open_string shut_string)
set_option linter.unusedVariables false
set_option linter.unusedSimpArgs false
theorem own : ownKnob Tryd.prog.godebug = none := by kernel_rfl
theorem laidOut : laidOutB Tryd.prog = true := by kernel_rfl
set_option maxRecDepth 100000
abbrev zargs : Array Value := #[.string ⟨#[]⟩, .agg #[.int .i64 0, .int .i64 0], .slice none 0 0]
theorem laid_met (os : Os) (args : Array Value) : laidMet Tryd.prog Rows.placeMovesRow.laid ((laidWorld os).forCall (fun _ _ => 0) ⟨#[], args, []⟩).memory := by
  show laidMet Tryd.prog laidL _
  rw [laidL_eq]
  exact (LaidIn.of_run (l := [("unicode/utf8.acceptRanges", Lib.acceptData), ("unicode/utf8.first", Lib.firstData)]) [2, 1] 8 (by kernel_rfl) (by kernel_rfl) (by kernel_rfl) (by kernel_rfl)).met
theorem witness_row (os : Os) {H : Type} (enc : TypeId × Value → H) :
    (OpenSpec.ofChange Rows.placeMovesSpec).preRow enc Tryd.prog Tryd.f9 Rows.placeMovesRow.domain false Rows.placeMovesRow.laid ((laidWorld os).forCall (fun _ _ => 0) ⟨#[], #[.string ⟨#[]⟩, .agg #[.int .i64 0, .int .i64 0], .slice none 0 0], []⟩).memory #[.string ⟨#[]⟩, .agg #[.int .i64 0, .int .i64 0], .slice none 0 0] := by
  have hw : (DataW.whole enc Tryd.prog ((laidWorld os).forCall (fun _ _ => 0) ⟨#[], #[.string ⟨#[]⟩, .agg #[.int .i64 0, .int .i64 0], .slice none 0 0], []⟩).memory Tryd.f9.params.toList (OpenSpec.ofChange Rows.placeMovesSpec).vars false (#[.string ⟨#[]⟩, .agg #[.int .i64 0, .int .i64 0], .slice none 0 0] : Array Value).toList 8).map (fun x => (x.1, x.2.1)) =
      some ([.lit (.string []), .agg [.lit (.int .i64 0), .lit (.int .i64 0)], .nil], []) := by kernel_rfl
  obtain ⟨⟨x1, x2, x3⟩, hx, hx1⟩ := Option.map_eq_some_iff.1 hw
  simp only [Prod.mk.injEq] at hx1
  obtain ⟨rfl, rfl⟩ := hx1
  exact OpenSpec.preRow_of_cond 8 hx (by kernel_rfl) (fun k hk => by cases hk) (by kernel_rfl) (laid_met os _)
set_option maxHeartbeats 4000000 in
theorem contract (H : Type) (enc : TypeId × Value → H) (W : World) (base : Nat) (args : Array Value) (ds gs : List (DataW H)) (before : List MemPlace)
    (hval0 : ∀ (j : Nat) t v, Tryd.f9.params[j]? = some t → args[j]? = some v → Value.okWide Tryd.prog W .any base t v)
    (hW : DataW.Whole enc Tryd.prog Tryd.f9.params.toList Rows.placeMovesSpec.vars false W args.toList ds gs before) (hT : TB W) :
    Calls Tryd.prog 9 args W fun e W' => ∃ v, e = .returned v ∧ Rows.placeMovesSpec.post enc Tryd.prog Tryd.f9 false true false false W args v W' := by
  have hval : ∀ (j : Nat) t v, Tryd.f9.params[j]? = some t → args[j]? = some v → Value.okWide Tryd.prog W .any base t v := hval0
  have hW' := hW
  obtain ⟨p, q, hA0, hV, rfl, hfz, hnd⟩ := hW
  have hA : DataW.TrodAll enc Tryd.prog W 0 (fun _ => true) true Tryd.f9.params.toList args.toList ds p := hA0
  rw [Tryd.params9] at hA hval
  obtain ⟨v0, vs0, d0, ds0, p0, q0, hargs, rfl, rfl, h0, r0⟩ := trodAll_cons hA
  obtain ⟨v1, vs1, d1, ds1, p1, q1, rfl, rfl, rfl, h1, r1⟩ := trodAll_cons r0
  obtain ⟨v2, vs2, d2, ds2, p2, q2, rfl, rfl, rfl, h2, r2⟩ := trodAll_cons r1
  obtain ⟨rfl, rfl, rfl⟩ := trodAll_nil r2
  obtain rfl : args = #[v0, v1, v2] := by cases args; simp_all
  obtain ⟨rfl, rfl⟩ := trodVars_none hV
  have k0 := h0
  have lt0 : ∀ x ∈ p0, x.block < W.heap.size := by obtain ⟨m, hm⟩ := k0; exact DataW.trod_lt m _ _ _ hm
  obtain ⟨m0, hm0⟩ := h0
  obtain ⟨a0, K0, ok0⟩ := ((OpG.OpF.string Tryd.underlying9) : OpG.OpF enc Tryd.prog W m0 9 Kd.string OpG.okS) _ _ hm0
  obtain ⟨x0, rfl, e, e2, w0⟩ := open_string Tryd.underlying9 (hval 0 9 v0 rfl rfl) k0
  obtain rfl : a0 = x0 := by
    have z_ : (.string x0 : Value).cells.toList = [.string a0] := K0
    simp [Value.cells] at z_
    exact z_.symm
  clear e e2
  have k1 := h1
  have lt1 : ∀ x ∈ p1, x.block < W.heap.size := by obtain ⟨m, hm⟩ := k1; exact DataW.trod_lt m _ _ _ hm
  obtain ⟨m1, hm1⟩ := h1
  obtain ⟨a1, K1, ok1⟩ := ((open23 _) : OpG.OpF enc Tryd.prog W m1 23 k23 ok23) _ _ hm1
  obtain ⟨cs1, rfl, _⟩ := okWide_struct Tryd.underlying23 (hval 1 23 v1 rfl rfl)
  obtain rfl : cs1 = #[.int .i64 a1.f0, .int .i64 a1.f1] := OpG.agg_val (k23_open K1)
  have k2 := h2
  have lt2 : ∀ x ∈ p2, x.block < W.heap.size := by obtain ⟨m, hm⟩ := k2; exact DataW.trod_lt m _ _ _ hm
  obtain ⟨m2, hm2⟩ := h2
  obtain ⟨a2, K2, ok2⟩ := ((OpG.OpF.slice Tryd.underlying57 (by kernel_rfl) (fun _ _ => (open73 _))) : OpG.OpF enc Tryd.prog W m2 57 (Kd.slice 73 k73) (fun l => l.length ≤ 9223372036854775807 ∧ ∀ a ∈ l, ok73 a)) _ _ hm2
  obtain ⟨A2, len2, c2, rfl⟩ := okWide_slice Tryd.underlying57 (hval 2 57 v2 rfl rfl)
  obtain ⟨rfl, hc2, hr2⟩ := OpG.slice_val K2
  clear hA0 hval0
  obtain ⟨kk, hk⟩ := Pure.PlaceMoves a0 a1 a2 ok0 ok1 ok2
  refine (marginalialaw02_PlaceMoves.calls kk a0 a1.f0 a1.f1 A2 c2 a2 true W hr2 hc2 hk hT).mono fun e W' ⟨he, bel⟩ => ?_
  subst he
  exact ⟨_, rfl, _, _, _, [], _, [], hW', trodAll_mk1 (shut_bool Tryd.underlying4 _), (trodAll_cons_mk (Below.trod laidOut (by kernel_rfl) (of_decide_eq_true (by kernel_rfl)) k0 bel lt0) (trodAll_cons_mk (Below.trod laidOut (by kernel_rfl) (of_decide_eq_true (by kernel_rfl)) k1 bel lt1) (trodAll_cons_mk (Below.trod laidOut (by kernel_rfl) (of_decide_eq_true (by kernel_rfl)) k2 bel lt2) trodAll_mk0))), rfl, bel.frame _, fun h => by cases h⟩
theorem lifted (os : Os) (started : os.Started) (H : Type) (enc : TypeId × Value → H) (F : Stop.Interp) :
    ReturnsInHanded {} Tryd.checked os 9 .any ((OpenSpec.ofChange Rows.placeMovesSpec).preRow enc Tryd.prog Tryd.f9 Rows.placeMovesRow.domain false Rows.placeMovesRow.laid) (((OpenSpec.ofChange Rows.placeMovesSpec).at F).post enc Tryd.prog Tryd.f9 false true false false) := by
  refine returnsInHanded_of_row (C := Tryd.checked) (s := OpenSpec.ofChange Rows.placeMovesSpec) own started (by kernel_rfl) Tryd.func9
    (witness_row_atRef (enc := enc) (C := Tryd.checked) false (laidWorld os) #[.string ⟨#[]⟩, .agg #[.int .i64 0, .int .i64 0], .slice none 0 0] rfl (by kernel_rfl) (by kernel_rfl) (by kernel_rfl) (witness_row os enc)) ?_
  intro W base args ds gs before hval hW _ _ _ hL hS _
  exact contract H enc W base args ds gs before hval hW (TB.of_row hL hS)
theorem said : Rows.PlaceMovesSaid :=
  OpenClaim.holds_of_cond 9 Tryd.f9 rfl rfl rfl rfl rfl rfl rfl ⟨rfl, rfl, rfl, rfl, rfl⟩ rfl rfl rfl rfl rfl (by kernel_rfl) Tryd.func9 (by kernel_rfl)
    (of_decide_eq_true (by kernel_rfl)) (by unfold Func.isWrapper; first | (rw [if_pos (by decide +kernel)]; kernel_rfl) | (rw [if_neg (by decide +kernel)]; exact ⟨rfl, rfl⟩))
    (fun os started H enc _ F => by rw [OpenClaim.pre_eq_preRow]; exact lifted os started H enc F)
theorem plain (f : FuncId) (fn : Func) (hf : Tryd.pinned.checked.prog.funcNamed "marginalia/marginalialaw02.PlaceMoves" = some f) (hfn : Tryd.pinned.checked.prog.funcs[f]? = some fn) :
    false = Tryd.pinned.checked.prog.looks [] ∧ ∀ (j : Nat) t, fn.params[j]? = some t → Tryd.pinned.checked.prog.wantsStandIn t = false := by
  obtain rfl : f = 9 := Option.some.inj ((show Tryd.prog.funcNamed "marginalia/marginalialaw02.PlaceMoves" = some 9 by kernel_rfl).symm.trans hf) |>.symm
  obtain rfl : fn = Tryd.f9 := (Option.some.inj (Tryd.func9.symm.trans hfn)).symm
  refine ⟨by kernel_rfl, fun j t ht => ?_⟩
  rw [Tryd.params9] at ht
  have hm := Array.mem_of_getElem? ht
  simp only [List.mem_toArray, List.mem_cons, List.not_mem_nil, or_false, or_self] at hm
  rcases hm with h | h | h
  · subst h; exact (show Tryd.prog.wantsStandIn 9 = false by kernel_rfl)
  · subst h; exact (show Tryd.prog.wantsStandIn 23 = false by kernel_rfl)
  · subst h; exact (show Tryd.prog.wantsStandIn 57 = false by kernel_rfl)
theorem card : Rows.PlaceMovesCardSaid :=
  Claim7.holds_tied_plain_at .later [] _ _ _ _ said (fun _ h => by cases h) (by kernel_rfl) (fun _ h => by cases h) placeMoves_row_tie rfl ⟨rfl, rfl⟩ (by kernel_rfl) rfl plain (by kernel_rfl)
end Go.Proofs.YtbioehoeoalalaaDoor.placeMoves
namespace Go.Proofs.YtbioehoeoalalaaDoor
theorem placeMoves_holds : Rows.PlaceMovesCardSaid := placeMoves.card
#print axioms placeMoves_holds
end Go.Proofs.YtbioehoeoalalaaDoor
