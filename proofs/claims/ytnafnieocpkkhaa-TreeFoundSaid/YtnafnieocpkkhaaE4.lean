/- What the claim's row needs of the seat's texts, part 4: put together by a program of this session (declarations that no text of the claim names are left out). -/

import Derived.Test.YtnafnieocpkkhaaE3
namespace Go.Proofs.Ytnafnieocpkkhaa.P
open Go.RowKit Go.Proofs.YtnafnieocpkkhaaW.PrintWords Go.Proofs.YtnafnieocpkkhaaW.PrintLast Go.Proofs.YtnafnieocpkkhaaW.PrintMore
attribute [local go_sem] max2_int min2_int max_two min_two max_three min_three max_four min_four
set_option linter.unusedVariables false
set_option linter.unusedSimpArgs false

/-! ### marginalialaw05_TreeFound: function 10 -/
mutual
def marginalialaw05_TreeFound.j0 : Nat → Int → Int → ByteArray → List (S26) → Int → Int → Option (Bool)
 | 0, _, _, _, _, _, _ => none
 | k + 1, x298000, x298001, x298002, x298003, x302000, x302001 => (tree_Cover.f k x298000 x298001 x298002 x298003 x302000 x302001).bind fun bt318 => ((tree_Span.f k x298000 x298001 x298002 x298003 bt318.1).bind fun bt322 => ((tree_At.f k x298000 x298001 x298002 x298003 bt318.1).bind fun bt326 => (if bt318.2 = 0 then (if bt322.2.2 = 0 then (if bt326.2.2.2.2 = 0 then (if bt322.1 > x302000 then (none) else (if bt322.2.1 < x302001 then (none) else (marginalialaw05_TreeFound.l0 k bt318.1 0 x298000 x298001 x298002 x298003 x302000 x302001 bt326.1 bt326.2.1 bt326.2.2.1 bt326.2.2.2.1))) else (none)) else (none)) else (none))))
def marginalialaw05_TreeFound.l0 : Nat → List Int → Int → Int → Int → ByteArray → List (S26) → Int → Int → Int → Int → ByteArray → List (S26) → Option (Bool)
 | 0, _, _, _, _, _, _, _, _, _, _, _, _ => none
 | k + 1, x19, x25, x298000, x298001, x298002, x298003, x302000, x302001, x334000, x334001, x334002, x334003 => if x25 < (x334003.length : Int) then ((some (([] : List Int) : List Int)).bind fun y334 => (if y334.length + x19.length < 17592186044416 then ((some (y334 ++ x19 : List Int)).bind fun y337 => ((some (([x25] : List Int) : List Int)).bind fun y340 => (if y337.length + y340.length < 17592186044416 then ((tree_Span.f k x298000 x298001 x298002 x298003 (y337 ++ y340)).bind fun bt346 => (if bt346.2.2 = 0 then (if bt346.1 ≤ x302000 then (if bt346.2.1 ≥ x302001 then (none) else (marginalialaw05_TreeFound.l0 k x19 (wrap64 (x25 + 1)) x298000 x298001 x298002 x298003 x302000 x302001 x334000 x334001 x334002 x334003)) else (marginalialaw05_TreeFound.l0 k x19 (wrap64 (x25 + 1)) x298000 x298001 x298002 x298003 x302000 x302001 x334000 x334001 x334002 x334003)) else (none))) else (none)))) else (none))) else ((marginalialaw05_alive.f).bind fun t350 => (some t350))
end
def marginalialaw05_TreeFound.f (k : Nat) (a0_0 : Int) (a0_1 : Int) (a0_2 : ByteArray) (l0_3 : List (S26)) (a1 : Int) (a2 : Int) : Option (Bool) := (marginalialaw05_cut.f k a0_0 a0_1 a0_2 l0_3).bind fun bt291 => ((tree_Width.f k bt291.1 bt291.2.1 bt291.2.2.1 bt291.2.2.2).bind fun bt298 => (if bt298.2 = 0 then (if (wrap64 (bt298.1 + 1)) = 0 then (none) else (if (Int.tmod (wrap64 (a1)) (wrap64 (bt298.1 + 1))) < bt298.1 then ((tree_Find.f k bt291.1 bt291.2.1 bt291.2.2.1 bt291.2.2.2 (Int.tmod (wrap64 (a1)) (wrap64 (bt298.1 + 1)))).bind fun bt302 => ((tree_Span.f k bt291.1 bt291.2.1 bt291.2.2.1 bt291.2.2.2 bt302.1).bind fun bt306 => ((tree_At.f k bt291.1 bt291.2.1 bt291.2.2.1 bt291.2.2.2 bt302.1).bind fun bt310 => (if bt302.2 = 0 then (if bt306.2.2 = 0 then (if bt310.2.2.2.2 = 0 then (if bt310.1 = 1 then (if bt306.1 > (Int.tmod (wrap64 (a1)) (wrap64 (bt298.1 + 1))) then (none) else (if bt306.2.1 ≤ (Int.tmod (wrap64 (a1)) (wrap64 (bt298.1 + 1))) then (none) else (marginalialaw05_TreeFound.j0 k bt291.1 bt291.2.1 bt291.2.2.1 bt291.2.2.2 (mn (Int.tmod (wrap64 (a1)) (wrap64 (bt298.1 + 1))) (Int.tmod (wrap64 (a2)) (wrap64 (bt298.1 + 1)))) (mx (Int.tmod (wrap64 (a1)) (wrap64 (bt298.1 + 1))) (Int.tmod (wrap64 (a2)) (wrap64 (bt298.1 + 1))))))) else (none)) else (none)) else (none)) else (none))))) else (marginalialaw05_TreeFound.j0 k bt291.1 bt291.2.1 bt291.2.2.1 bt291.2.2.2 (mn (Int.tmod (wrap64 (a1)) (wrap64 (bt298.1 + 1))) (Int.tmod (wrap64 (a2)) (wrap64 (bt298.1 + 1)))) (mx (Int.tmod (wrap64 (a1)) (wrap64 (bt298.1 + 1))) (Int.tmod (wrap64 (a2)) (wrap64 (bt298.1 + 1))))))) else ((marginalialaw05_alive.f).bind fun t300 => (some t300))))
def marginalialaw05_TreeFound.T5 : Bool × List (List Nat × List Nat) := (true, [([], []), ([0], [0]), ([], []), ([2], [2]), ([1, 3], [1, 3]), ([], []), ([5], [5]), ([], []), ([7], [7]), ([6, 8], [6, 8]), ([4, 0, 1, 2, 3, 4], [4]), ([9, 10, 0, 1, 2, 3, 4, 5, 6, 7, 8, 9, 10], [9])])
def marginalialaw05_TreeFound.B5 : List Nat := [0, 1, 0, 4, 15, 0, 32, 0, 128, 480, 31, 2047]
theorem marginalialaw05_TreeFound.tab5 : rtab .any (opsOf Try.f10 5) = marginalialaw05_TreeFound.T5 := by kernel_rfl
theorem marginalialaw05_TreeFound.bits5 : waitsOk marginalialaw05_TreeFound.T5.2 marginalialaw05_TreeFound.B5 = true := by kernel_rfl
def marginalialaw05_TreeFound.T21 : Bool × List (List Nat × List Nat) := (true, [([], []), ([], []), ([], []), ([1, 2], [1, 2]), ([], []), ([4], [4]), ([3, 5, 3], [3, 5]), ([0, 6, 6], [0, 6]), ([7], [7]), ([8], [8]), ([8], [8]), ([], []), ([11, 9, 7, 0, 1, 2, 3, 4, 5, 6, 7, 8, 9, 11], [9, 11]), ([10, 12, 0, 1, 2, 3, 4, 5, 6, 7, 8, 9, 10, 11, 12], [10])])
def marginalialaw05_TreeFound.B21 : List Nat := [0, 0, 0, 6, 0, 16, 62, 127, 255, 511, 511, 0, 3071, 8191]
theorem marginalialaw05_TreeFound.tab21 : rtab .any (opsOf Try.f10 21) = marginalialaw05_TreeFound.T21 := by kernel_rfl
theorem marginalialaw05_TreeFound.bits21 : waitsOk marginalialaw05_TreeFound.T21.2 marginalialaw05_TreeFound.B21 = true := by kernel_rfl
set_option maxHeartbeats 8000000 in
set_option maxRecDepth 100000 in
theorem marginalialaw05_TreeFound.calls (k : Nat) (a0_0 : Int) (a0_1 : Int) (a0_2 : ByteArray) (A0_3 : Option Addr) (c0_3 : Nat) (l0_3 : List (S26)) (a1 : Int) (a2 : Int) (r : Bool) (w : World) (hr0_3 : Kd.C k26 w A0_3 l0_3.length l0_3) (hc0_3 : l0_3.length ≤ c0_3) (h : marginalialaw05_TreeFound.f k a0_0 a0_1 a0_2 l0_3 a1 a2 = some r) :
  Calls Try.prog 10 #[.agg #[.int .i64 a0_0, .int .i64 a0_1, .string a0_2, .slice A0_3 l0_3.length c0_3], .int .u16 a1, .int .u16 a2] w fun e w' => e = .returned (.bool r) ∧ Below w.heap.size w w' := by
 have hu26 := Try.underlying26; have hu28 := Try.underlying28; have HR0_3 := Aside0.mk hr0_3; have HC0_3 := Aside0.mk hc0_3; clear hr0_3 hc0_3; have HB := Aside0.mk (Below.refl w.heap.size w); have H : ((marginalialaw05_cut.f k a0_0 a0_1 a0_2 l0_3).bind fun bt291 => ((tree_Width.f k bt291.1 bt291.2.1 bt291.2.2.1 bt291.2.2.2).bind fun bt298 => (if bt298.2 = 0 then (if (wrap64 (bt298.1 + 1)) = 0 then (none) else (if (Int.tmod (wrap64 (a1)) (wrap64 (bt298.1 + 1))) < bt298.1 then ((tree_Find.f k bt291.1 bt291.2.1 bt291.2.2.1 bt291.2.2.2 (Int.tmod (wrap64 (a1)) (wrap64 (bt298.1 + 1)))).bind fun bt302 => ((tree_Span.f k bt291.1 bt291.2.1 bt291.2.2.1 bt291.2.2.2 bt302.1).bind fun bt306 => ((tree_At.f k bt291.1 bt291.2.1 bt291.2.2.1 bt291.2.2.2 bt302.1).bind fun bt310 => (if bt302.2 = 0 then (if bt306.2.2 = 0 then (if bt310.2.2.2.2 = 0 then (if bt310.1 = 1 then (if bt306.1 > (Int.tmod (wrap64 (a1)) (wrap64 (bt298.1 + 1))) then (none) else (if bt306.2.1 ≤ (Int.tmod (wrap64 (a1)) (wrap64 (bt298.1 + 1))) then (none) else (marginalialaw05_TreeFound.j0 k bt291.1 bt291.2.1 bt291.2.2.1 bt291.2.2.2 (mn (Int.tmod (wrap64 (a1)) (wrap64 (bt298.1 + 1))) (Int.tmod (wrap64 (a2)) (wrap64 (bt298.1 + 1)))) (mx (Int.tmod (wrap64 (a1)) (wrap64 (bt298.1 + 1))) (Int.tmod (wrap64 (a2)) (wrap64 (bt298.1 + 1))))))) else (none)) else (none)) else (none)) else (none))))) else (marginalialaw05_TreeFound.j0 k bt291.1 bt291.2.1 bt291.2.2.1 bt291.2.2.2 (mn (Int.tmod (wrap64 (a1)) (wrap64 (bt298.1 + 1))) (Int.tmod (wrap64 (a2)) (wrap64 (bt298.1 + 1)))) (mx (Int.tmod (wrap64 (a1)) (wrap64 (bt298.1 + 1))) (Int.tmod (wrap64 (a2)) (wrap64 (bt298.1 + 1))))))) else ((marginalialaw05_alive.f).bind fun t300 => (some t300))))) = some r := h; clear h; replace H := Option.bind_eq_some_iff.mp H; obtain ⟨⟨t291, t292, t293, t294⟩, A40, H⟩ := H; replace H : ((tree_Width.f k t291 t292 t293 t294).bind fun bt298 => (if bt298.2 = 0 then (if (wrap64 (bt298.1 + 1)) = 0 then (none) else (if (Int.tmod (wrap64 (a1)) (wrap64 (bt298.1 + 1))) < bt298.1 then ((tree_Find.f k t291 t292 t293 t294 (Int.tmod (wrap64 (a1)) (wrap64 (bt298.1 + 1)))).bind fun bt302 => ((tree_Span.f k t291 t292 t293 t294 bt302.1).bind fun bt306 => ((tree_At.f k t291 t292 t293 t294 bt302.1).bind fun bt310 => (if bt302.2 = 0 then (if bt306.2.2 = 0 then (if bt310.2.2.2.2 = 0 then (if bt310.1 = 1 then (if bt306.1 > (Int.tmod (wrap64 (a1)) (wrap64 (bt298.1 + 1))) then (none) else (if bt306.2.1 ≤ (Int.tmod (wrap64 (a1)) (wrap64 (bt298.1 + 1))) then (none) else (marginalialaw05_TreeFound.j0 k t291 t292 t293 t294 (mn (Int.tmod (wrap64 (a1)) (wrap64 (bt298.1 + 1))) (Int.tmod (wrap64 (a2)) (wrap64 (bt298.1 + 1)))) (mx (Int.tmod (wrap64 (a1)) (wrap64 (bt298.1 + 1))) (Int.tmod (wrap64 (a2)) (wrap64 (bt298.1 + 1))))))) else (none)) else (none)) else (none)) else (none))))) else (marginalialaw05_TreeFound.j0 k t291 t292 t293 t294 (mn (Int.tmod (wrap64 (a1)) (wrap64 (bt298.1 + 1))) (Int.tmod (wrap64 (a2)) (wrap64 (bt298.1 + 1)))) (mx (Int.tmod (wrap64 (a1)) (wrap64 (bt298.1 + 1))) (Int.tmod (wrap64 (a2)) (wrap64 (bt298.1 + 1))))))) else ((marginalialaw05_alive.f).bind fun t300 => (some t300)))) = some r := H; have A4 := Aside0.mk A40; clear A40; replace H := Option.bind_eq_some_iff.mp H; obtain ⟨⟨t298, t299⟩, A50, H⟩ := H; replace H : (if t299 = 0 then (if (wrap64 (t298 + 1)) = 0 then (none) else (if (Int.tmod (wrap64 (a1)) (wrap64 (t298 + 1))) < t298 then ((tree_Find.f k t291 t292 t293 t294 (Int.tmod (wrap64 (a1)) (wrap64 (t298 + 1)))).bind fun bt302 => ((tree_Span.f k t291 t292 t293 t294 bt302.1).bind fun bt306 => ((tree_At.f k t291 t292 t293 t294 bt302.1).bind fun bt310 => (if bt302.2 = 0 then (if bt306.2.2 = 0 then (if bt310.2.2.2.2 = 0 then (if bt310.1 = 1 then (if bt306.1 > (Int.tmod (wrap64 (a1)) (wrap64 (t298 + 1))) then (none) else (if bt306.2.1 ≤ (Int.tmod (wrap64 (a1)) (wrap64 (t298 + 1))) then (none) else (marginalialaw05_TreeFound.j0 k t291 t292 t293 t294 (mn (Int.tmod (wrap64 (a1)) (wrap64 (t298 + 1))) (Int.tmod (wrap64 (a2)) (wrap64 (t298 + 1)))) (mx (Int.tmod (wrap64 (a1)) (wrap64 (t298 + 1))) (Int.tmod (wrap64 (a2)) (wrap64 (t298 + 1))))))) else (none)) else (none)) else (none)) else (none))))) else (marginalialaw05_TreeFound.j0 k t291 t292 t293 t294 (mn (Int.tmod (wrap64 (a1)) (wrap64 (t298 + 1))) (Int.tmod (wrap64 (a2)) (wrap64 (t298 + 1)))) (mx (Int.tmod (wrap64 (a1)) (wrap64 (t298 + 1))) (Int.tmod (wrap64 (a2)) (wrap64 (t298 + 1))))))) else ((marginalialaw05_alive.f).bind fun t300 => (some t300))) = some r := H
 have A5 := Aside0.mk A50; clear A50; by_cases c6 : t299 = 0
 ·rw [if_pos c6] at H; have c6b0 : (t299 == 0) = true := beq_iff_eq.mpr c6; have c6b1 : (t299 != 0) = false := bne_eq_false_iff_eq.mpr c6; clear c6; replace H := zj H; obtain ⟨c7, H⟩ := H; have c7b0 : ((wrap64 (t298 + 1)) == 0) = false := beq_eq_false_iff_ne.mpr c7; have c7b1 : ((wrap64 (t298 + 1)) != 0) = true := bne_iff_ne.mpr c7
  obtain ⟨ji8, hji8⟩ : ∃ j_ : Int, (mn (Int.tmod (wrap64 (a1)) (wrap64 (t298 + 1))) (Int.tmod (wrap64 (a2)) (wrap64 (t298 + 1)))) = j_ := ⟨_, rfl⟩
  replace H : (if (Int.tmod (wrap64 (a1)) (wrap64 (t298 + 1))) < t298 then ((tree_Find.f k t291 t292 t293 t294 (Int.tmod (wrap64 (a1)) (wrap64 (t298 + 1)))).bind fun bt302 => ((tree_Span.f k t291 t292 t293 t294 bt302.1).bind fun bt306 => ((tree_At.f k t291 t292 t293 t294 bt302.1).bind fun bt310 => (if bt302.2 = 0 then (if bt306.2.2 = 0 then (if bt310.2.2.2.2 = 0 then (if bt310.1 = 1 then (if bt306.1 > (Int.tmod (wrap64 (a1)) (wrap64 (t298 + 1))) then (none) else (if bt306.2.1 ≤ (Int.tmod (wrap64 (a1)) (wrap64 (t298 + 1))) then (none) else (marginalialaw05_TreeFound.j0 k t291 t292 t293 t294 ji8 (mx (Int.tmod (wrap64 (a1)) (wrap64 (t298 + 1))) (Int.tmod (wrap64 (a2)) (wrap64 (t298 + 1))))))) else (none)) else (none)) else (none)) else (none))))) else (marginalialaw05_TreeFound.j0 k t291 t292 t293 t294 ji8 (mx (Int.tmod (wrap64 (a1)) (wrap64 (t298 + 1))) (Int.tmod (wrap64 (a2)) (wrap64 (t298 + 1)))))) = some r := by first | (rw [hji8] at H; exact H) | (simp only [hji8] at H ⊢; exact H)
  (try rw [hji8] at A4)
  (try rw [hji8] at A5)
  have hji8_ : (if (Int.tmod (wrap64 (a2)) (wrap64 (t298 + 1))) < (Int.tmod (wrap64 (a1)) (wrap64 (t298 + 1))) then (Int.tmod (wrap64 (a2)) (wrap64 (t298 + 1))) else (Int.tmod (wrap64 (a1)) (wrap64 (t298 + 1)))) = ji8 := hji8
  obtain ⟨ji9, hji9⟩ : ∃ j_ : Int, (mx (Int.tmod (wrap64 (a1)) (wrap64 (t298 + 1))) (Int.tmod (wrap64 (a2)) (wrap64 (t298 + 1)))) = j_ := ⟨_, rfl⟩
  replace H : (if (Int.tmod (wrap64 (a1)) (wrap64 (t298 + 1))) < t298 then ((tree_Find.f k t291 t292 t293 t294 (Int.tmod (wrap64 (a1)) (wrap64 (t298 + 1)))).bind fun bt302 => ((tree_Span.f k t291 t292 t293 t294 bt302.1).bind fun bt306 => ((tree_At.f k t291 t292 t293 t294 bt302.1).bind fun bt310 => (if bt302.2 = 0 then (if bt306.2.2 = 0 then (if bt310.2.2.2.2 = 0 then (if bt310.1 = 1 then (if bt306.1 > (Int.tmod (wrap64 (a1)) (wrap64 (t298 + 1))) then (none) else (if bt306.2.1 ≤ (Int.tmod (wrap64 (a1)) (wrap64 (t298 + 1))) then (none) else (marginalialaw05_TreeFound.j0 k t291 t292 t293 t294 ji8 ji9))) else (none)) else (none)) else (none)) else (none))))) else (marginalialaw05_TreeFound.j0 k t291 t292 t293 t294 ji8 ji9)) = some r := by first | (rw [hji9] at H; exact H) | (simp only [hji9] at H ⊢; exact H)
  (try rw [hji9] at A4)
  (try rw [hji9] at A5)
  have hji9_ : (if (Int.tmod (wrap64 (a1)) (wrap64 (t298 + 1))) < (Int.tmod (wrap64 (a2)) (wrap64 (t298 + 1))) then (Int.tmod (wrap64 (a2)) (wrap64 (t298 + 1))) else (Int.tmod (wrap64 (a1)) (wrap64 (t298 + 1)))) = ji9 := hji9; have HC10 := Aside0.mk H; clear H; go_enter Try.func10, Try.ntmps10
  try go_wp2_with (first | ((with_reducible refine zD 3 rfl ?_); refine zx 3 #[.int .i64 a0_0, .int .i64 a0_1, .string a0_2, .slice A0_3 l0_3.length c0_3] 26 ?_; intro gb290 hg w11 hbox hb; have BK290 := Aside0.mk (hbox); have GW290 := (zq hg : Aside0 (w.heap.size ≤ gb290)); have GE290 := GW290; replace HB := (zB hb); clear hb hbox hg; obtain ⟨hcz12_0, hcz12_1, hcz12_2, hcz12_3⟩ := zc4 BK290; obtain ⟨hfz12_0, hfz12_1, hfz12_2, hfz12_3⟩ := zz4 BK290) | ((with_reducible refine zG 15 rfl ?_); refine zg 29 Try.func15 ((marginalialaw05_cut.calls k a0_0 a0_1 a0_2 _ _ l0_3 t291 t292 t293 t294 _ ?side1 ?side2 A4.out).mono ?_); (case side1 => exact zC HR0_3); (case side2 => exact HC0_3.out); rintro e w13 ⟨v295, rfl, ho0, hb⟩; refine ⟨_, rfl, ?_⟩; have HO296 := Aside0.mk (Kd.R_lower (Kd.R_newB ho0 (g := gb290) (o := .cells #[.int .i64 a0_0, .int .i64 a0_1, .string a0_2, .slice A0_3 l0_3.length c0_3] 26 (0, 0)) (Cl.blk BK290.out)) (below_size zb)); replace BK290 := (zK BK290 hb); replace HB := (zB hb); (try clear hb); (try clear hb2); (try clear hk); (try clear hi); (try clear ho0)) | ((with_reducible refine zD 7 rfl ?_); refine zx 7 #[.int .i64 0, .int .i64 0, .string (⟨#[]⟩ : ByteArray), .slice none 0 0] 26 ?_; intro gb297 hg w14 hbox hb; replace HO296 := Aside0.mk (Kd.R_below (Kd.R_elderB (zR HO296) gb297 (Nat.le_of_eq hg.symm)) hb); have BK297 := Aside0.mk (hbox); have GW297 := (zq hg : Aside0 (w.heap.size ≤ gb297)); have GE297 := GW297; replace HB := (zB hb); have NB290_297 := (zl hg BK290 : Aside0 (gb290 ≠ gb297)); have NB297_290 := (zl' hg BK290 : Aside0 (gb297 ≠ gb290)); replace BK290 := (zK BK290 hb); clear hb hbox hg; have hnb15 := NB297_290.out; have hnc15 := NB290_297.out; obtain ⟨hcz16_0, hcz16_1, hcz16_2, hcz16_3⟩ := zc4 BK297; obtain ⟨hfz16_0, hfz16_1, hfz16_2, hfz16_3⟩ := zz4 BK297; obtain ⟨Ao17, co17, eo17⟩ := Kd.R_slice HO296.out; subst eo17) | ((with_reducible refine zG 27 rfl ?_); refine zg 32 Try.func27 ((tree_Width.calls k t291 t292 t293 _ _ t294 t298 t299 _ ?side1 ?side2 A5.out).mono ?_); (case side1 => refine (Kd.R_reads' (e := 26) (base := w.heap.size) (ok := fun k_ => ((True ∧ k_ ≠ gb290) ∧ k_ ≠ gb297)) (n := t294.length) (c := co17) ?_).2.2; exact (by (with_reducible repeat (first | apply Kd.R_alloc | apply Kd.R_drewN | apply Kd.R_drew)); exact (Kd.R_mono (Kd.R_far (p := ⟨gb297, 3, none⟩) (Kd.R_far (p := ⟨gb297, 2, none⟩) (Kd.R_far (p := ⟨gb297, 1, none⟩) (Kd.R_far (p := ⟨gb297, 0, none⟩) (Kd.R_mono HO296.out (fun k_ hk => (⟨hk, hk.2⟩ : _ ∧ k_ ≠ gb297))) (fun _ hk => hk.2) (.int .i64 t291)) (fun _ hk => hk.2) (.int .i64 t292)) (fun _ hk => hk.2) (.string t293)) (fun _ hk => hk.2) (.slice Ao17 t294.length co17)) (fun _ h_ => h_.1)))); (case side2 => exact (Kd.R_reads' HO296.out).2.1); rintro e w18 ⟨rfl, hb⟩; refine ⟨_, rfl, ?_⟩; replace HO296 := Aside0.mk (Kd.R_below (by (with_reducible repeat (first | apply Kd.R_alloc | apply Kd.R_drewN | apply Kd.R_drew)); exact (Kd.R_mono (Kd.R_far (p := ⟨gb297, 3, none⟩) (Kd.R_far (p := ⟨gb297, 2, none⟩) (Kd.R_far (p := ⟨gb297, 1, none⟩) (Kd.R_far (p := ⟨gb297, 0, none⟩) (Kd.R_mono HO296.out (fun k_ hk => (⟨hk, hk.2⟩ : _ ∧ k_ ≠ gb297))) (fun _ hk => hk.2) (.int .i64 t291)) (fun _ hk => hk.2) (.int .i64 t292)) (fun _ hk => hk.2) (.string t293)) (fun _ hk => hk.2) (.slice Ao17 t294.length co17)) (fun _ h_ => h_.1))) hb); replace BK290 := (zw2 gb290 #[.int .i64 a0_0, .int .i64 a0_1, .string a0_2, .slice A0_3 l0_3.length c0_3] 26 hb); replace BK297 := (zw2 gb297 #[.int .i64 t291, .int .i64 t292, .string t293, .slice Ao17 t294.length co17] 26 hb); replace HB := (zB hb); (try clear hb); (try clear hb2); (try clear hk); (try clear hi)))
  replace HO296 := Aside0.mk (Kd.R_drew HO296.out); replace BK290 := Aside0.mk (blk_drew BK290.out); replace BK297 := Aside0.mk (blk_drew BK297.out); replace HB := Aside0.mk (below_drew1 HB.out); refine start_ (n := 12) (S := fun w' => True) (ds := []) #[false, false, false, false, false, false, false, false, false, false, false, false] (by kernel_rfl) rfl rfl trivial (fun hHeld => ?_); refine with_tabW marginalialaw05_TreeFound.tab5 marginalialaw05_TreeFound.bits5 (fun HT_ HW_ => ?_); generalize w18.drew = w19 at HO296 BK290 BK297 HB hHeld ⊢; refine zp 0 38 HT_ ?_; refine zp 1 39 HT_ ?_; refine zp 2 40 HT_ ?_; refine zp 3 41 HT_ ?_; refine zp 4 42 HT_ ?_; refine zp 5 43 HT_ ?_; refine zp 6 44 HT_ ?_; refine zp 7 45 HT_ ?_; refine zp 8 46 HT_ ?_; refine zp 9 47 HT_ ?_; refine zp 10 10 HT_ ?_; refine zp 11 11 HT_ ?_; refine done_ (done_of HT_.out (by kernel_rfl)) ?_
  go_upto_if 57 with (first | ((with_reducible refine zD 12 rfl ?_); refine zx 12 #[.int .i64 0, .int .i64 0] 28 ?_; intro gb301 hg w20 hbox hb; replace HO296 := (zRb HO296 hb); have BK301 := Aside0.mk (hbox); have GW301 := (zq hg : Aside0 (w.heap.size ≤ gb301)); have GE301 := GW301; replace HB := (zB hb); have NB290_301 := (zl hg BK290 : Aside0 (gb290 ≠ gb301)); have NB301_290 := (zl' hg BK290 : Aside0 (gb301 ≠ gb290)); replace BK290 := (zK BK290 hb); have NB297_301 := (zl hg BK297 : Aside0 (gb297 ≠ gb301)); have NB301_297 := (zl' hg BK297 : Aside0 (gb301 ≠ gb297)); replace BK297 := (zK BK297 hb); clear hb hbox hg; have hnb21 := NB301_290.out; have hnc21 := NB290_301.out; have hnb22 := NB301_297.out; have hnc22 := NB297_301.out; obtain ⟨hcz23_0, hcz23_1⟩ := zc2 BK301; obtain ⟨hfz23_0, hfz23_1⟩ := zz2 BK301))
  (try simp only [Act.put, List.setIfInBounds_toArray, List.set_cons_zero, List.set_cons_succ])
  go_cut [] (fun wc => ∃ (kq : Nat), Aside0 (marginalialaw05_TreeFound.j0 kq t291 t292 t293 t294 ji8 ji9 = some r) ∧ Aside0 (kq ≤ k) ∧ Aside0 (Kd.R k26 26 wc w.heap.size (fun k_ => k_ ≠ gb290 ∧ k_ ≠ gb297) (.slice Ao17 t294.length co17) t294) ∧ Aside0 (wc.heap[gb290]? = some (.cells #[.int .i64 a0_0, .int .i64 a0_1, .string a0_2, (.slice A0_3 l0_3.length c0_3)] 26 (0, 0))) ∧ Aside0 (wc.heap[gb297]? = some (.cells #[.int .i64 t291, .int .i64 t292, .string t293, (.slice Ao17 t294.length co17)] 26 (0, 0))) ∧ Aside0 (wc.heap[gb301]? = some (.cells #[.int .i64 ji8, .int .i64 ji9] 28 (0, 0))) ∧ Aside0 (Below w.heap.size w wc))
  case first =>
   have H := HC10.out; clear HC10; by_cases c24 : (Int.tmod (wrap64 (a1)) (wrap64 (t298 + 1))) < t298
   ·rw [if_pos c24] at H; have c24b0 := decide_eq_true c24; clear c24
    (first | rw [c24b0] | (simp only [i64_w, i32_w]; rw [c24b0]) | skip)
    replace H := Option.bind_eq_some_iff.mp H; obtain ⟨⟨t302, t305⟩, A250, H⟩ := H; replace H : ((tree_Span.f k t291 t292 t293 t294 t302).bind fun bt306 => ((tree_At.f k t291 t292 t293 t294 t302).bind fun bt310 => (if t305 = 0 then (if bt306.2.2 = 0 then (if bt310.2.2.2.2 = 0 then (if bt310.1 = 1 then (if bt306.1 > (Int.tmod (wrap64 (a1)) (wrap64 (t298 + 1))) then (none) else (if bt306.2.1 ≤ (Int.tmod (wrap64 (a1)) (wrap64 (t298 + 1))) then (none) else (marginalialaw05_TreeFound.j0 k t291 t292 t293 t294 ji8 ji9))) else (none)) else (none)) else (none)) else (none)))) = some r := H; have A25 := Aside0.mk A250; clear A250; replace H := Option.bind_eq_some_iff.mp H; obtain ⟨⟨t306, t307, t308⟩, A260, H⟩ := H; replace H : ((tree_At.f k t291 t292 t293 t294 t302).bind fun bt310 => (if t305 = 0 then (if t308 = 0 then (if bt310.2.2.2.2 = 0 then (if bt310.1 = 1 then (if t306 > (Int.tmod (wrap64 (a1)) (wrap64 (t298 + 1))) then (none) else (if t307 ≤ (Int.tmod (wrap64 (a1)) (wrap64 (t298 + 1))) then (none) else (marginalialaw05_TreeFound.j0 k t291 t292 t293 t294 ji8 ji9))) else (none)) else (none)) else (none)) else (none))) = some r := H; have A26 := Aside0.mk A260; clear A260; replace H := Option.bind_eq_some_iff.mp H; obtain ⟨⟨t310, t311, t312, t313, t316⟩, A270, H⟩ := H; replace H : (if t305 = 0 then (if t308 = 0 then (if t316 = 0 then (if t310 = 1 then (if t306 > (Int.tmod (wrap64 (a1)) (wrap64 (t298 + 1))) then (none) else (if t307 ≤ (Int.tmod (wrap64 (a1)) (wrap64 (t298 + 1))) then (none) else (marginalialaw05_TreeFound.j0 k t291 t292 t293 t294 ji8 ji9))) else (none)) else (none)) else (none)) else (none)) = some r := H; have A27 := Aside0.mk A270; clear A270; replace H := zi3 H; obtain ⟨c28b0, c28b1, H⟩ := H; replace H := zi3 H; obtain ⟨c29b0, c29b1, H⟩ := H; replace H := zi3 H; obtain ⟨c30b0, c30b1, H⟩ := H; replace H := zi3 H; obtain ⟨c31b0, c31b1, H⟩ := H; replace H := zj1 H; obtain ⟨c32b0, H⟩ := H; replace H := zj1 H; obtain ⟨c33b0, H⟩ := H; have H' := Aside0.mk H; clear H; have hnb34 := NB297_290.out; have hnc34 := NB290_297.out; have hnb35 := NB297_301.out; have hnc35 := NB301_297.out; obtain ⟨hcz36_0, hcz36_1, hcz36_2, hcz36_3⟩ := zc4 BK297; obtain ⟨hfz36_0, hfz36_1, hfz36_2, hfz36_3⟩ := zz4 BK297
    go_wp2_with (first | ((with_reducible refine zG 16 rfl ?_); refine zg 61 Try.func16 ((tree_Find.calls k t291 t292 t293 _ _ t294 (Int.tmod (wrap64 (a1)) (wrap64 (t298 + 1))) t302 t305 _ ?side1 ?side2 A25.out).mono ?_); (case side1 => refine (Kd.R_reads' (e := 26) (base := w.heap.size) (ok := fun k_ => ((True ∧ k_ ≠ gb290) ∧ k_ ≠ gb297)) (n := t294.length) (c := co17) ?_).2.2; exact (by (with_reducible repeat (first | apply Kd.R_alloc | apply Kd.R_drewN | apply Kd.R_drew)); exact (Kd.R_mono (Kd.R_far (p := ⟨gb301, 1, none⟩) (Kd.R_far (p := ⟨gb301, 0, none⟩) (Kd.R_types HO296.out BK301.out (by decide)) (fun _ hk => hk.2) (.int .i64 ji8)) (fun _ hk => hk.2) (.int .i64 ji9)) (fun _ h_ => h_.1)))); (case side2 => exact (Kd.R_reads' HO296.out).2.1); rintro e w37 ⟨v303, rfl, ho0, hb⟩; refine ⟨_, rfl, ?_⟩; replace HO296 := Aside0.mk (Kd.R_below (by (with_reducible repeat (first | apply Kd.R_alloc | apply Kd.R_drewN | apply Kd.R_drew)); exact (Kd.R_mono (Kd.R_far (p := ⟨gb301, 1, none⟩) (Kd.R_far (p := ⟨gb301, 0, none⟩) (Kd.R_types HO296.out BK301.out (by decide)) (fun _ hk => hk.2) (.int .i64 ji8)) (fun _ hk => hk.2) (.int .i64 ji9)) (fun _ h_ => h_.1))) hb); have HO304 := Aside0.mk (Kd.R_lower ho0 (below_size zb)); replace BK290 := (zw2 gb290 #[.int .i64 a0_0, .int .i64 a0_1, .string a0_2, .slice A0_3 l0_3.length c0_3] 26 hb); replace BK297 := (zw2 gb297 #[.int .i64 t291, .int .i64 t292, .string t293, .slice Ao17 t294.length co17] 26 hb); replace BK301 := (zw2 gb301 #[.int .i64 ji8, .int .i64 ji9] 28 hb); replace HB := (zB hb); (try clear hb); (try clear hb2); (try clear hk); (try clear hi); (try clear ho0); obtain ⟨hcz38_0, hcz38_1, hcz38_2, hcz38_3⟩ := zc4 BK297; obtain ⟨hfz38_0, hfz38_1, hfz38_2, hfz38_3⟩ := zz4 BK297; obtain ⟨Ao39, co39, eo39⟩ := Kd.R_slice HO304.out; subst eo39) | ((with_reducible refine zG 48 rfl ?_); refine zg 67 Try.func48 ((tree_Span.calls k t291 t292 t293 _ _ t294 _ _ t302 t306 t307 t308 _ ?side1 ?side2 ?side3 ?side4 A26.out).mono ?_); (case side1 => exact zE' (Kd.R_reads' HO296.out).2.2); (case side2 => exact (Kd.R_reads' HO296.out).2.1); (case side3 => exact zE' (Kd.R_reads' HO304.out).2.2); (case side4 => exact (Kd.R_reads' HO304.out).2.1); rintro e w40 ⟨rfl, hb⟩; refine ⟨_, rfl, ?_⟩; replace HO296 := (zRb HO296 hb); replace HO304 := (zRb HO304 hb); replace BK290 := (zK BK290 hb); replace BK297 := (zK BK297 hb); replace BK301 := (zK BK301 hb); replace HB := (zB hb); (try clear hb); (try clear hb2); (try clear hk); (try clear hi)) | ((with_reducible refine zD 15 rfl ?_); refine zx 15 #[.int .i64 0, .int .i64 0] 28 ?_; intro gb309 hg w41 hbox hb; replace HO296 := (zRb HO296 hb); replace HO304 := (zRb HO304 hb); have BK309 := Aside0.mk (hbox); have GW309 := (zq hg : Aside0 (w.heap.size ≤ gb309)); have GE309 := GW309; replace HB := (zB hb); have NB290_309 := (zl hg BK290 : Aside0 (gb290 ≠ gb309)); have NB309_290 := (zl' hg BK290 : Aside0 (gb309 ≠ gb290)); replace BK290 := (zK BK290 hb); have NB297_309 := (zl hg BK297 : Aside0 (gb297 ≠ gb309)); have NB309_297 := (zl' hg BK297 : Aside0 (gb309 ≠ gb297)); replace BK297 := (zK BK297 hb); have NB301_309 := (zl hg BK301 : Aside0 (gb301 ≠ gb309)); have NB309_301 := (zl' hg BK301 : Aside0 (gb309 ≠ gb301)); replace BK301 := (zK BK301 hb); clear hb hbox hg; have hnb42 := NB309_290.out; have hnc42 := NB290_309.out; have hnb43 := NB309_297.out; have hnc43 := NB297_309.out; have hnb44 := NB309_301.out; have hnc44 := NB301_309.out; obtain ⟨hcz45_0, hcz45_1⟩ := zc2 BK309; obtain ⟨hfz45_0, hfz45_1⟩ := zz2 BK309; obtain ⟨hcz46_0, hcz46_1, hcz46_2, hcz46_3⟩ := zc4 BK297; obtain ⟨hfz46_0, hfz46_1, hfz46_2, hfz46_3⟩ := zz4 BK297) | ((with_reducible refine zG 49 rfl ?_); refine zg 73 Try.func49 ((tree_At.calls k t291 t292 t293 _ _ t294 _ _ t302 t310 t311 t312 t313 t316 _ ?side1 ?side2 ?side3 ?side4 A27.out).mono ?_); (case side1 => refine (Kd.R_reads' (e := 26) (base := w.heap.size) (ok := fun k_ => ((True ∧ k_ ≠ gb290) ∧ k_ ≠ gb297)) (n := t294.length) (c := co17) ?_).2.2; exact (by (with_reducible repeat (first | apply Kd.R_alloc | apply Kd.R_drewN | apply Kd.R_drew)); exact (Kd.R_mono (Kd.R_far (p := ⟨gb309, 1, none⟩) (Kd.R_far (p := ⟨gb309, 0, none⟩) (Kd.R_types HO296.out BK309.out (by decide)) (fun _ hk => hk.2) (.int .i64 t306)) (fun _ hk => hk.2) (.int .i64 t307)) (fun _ h_ => h_.1)))); (case side2 => exact (Kd.R_reads' HO296.out).2.1); (case side3 => refine (Kd.R_reads' (e := 3) (base := w.heap.size) (ok := fun k_ => True) (n := t302.length) (c := co39) ?_).2.2; exact (by (with_reducible repeat (first | apply Kd.R_alloc | apply Kd.R_drewN | apply Kd.R_drew)); exact (Kd.R_mono (Kd.R_far (p := ⟨gb309, 1, none⟩) (Kd.R_far (p := ⟨gb309, 0, none⟩) (Kd.R_types HO304.out BK309.out (by decide)) (fun _ hk => hk.2) (.int .i64 t306)) (fun _ hk => hk.2) (.int .i64 t307)) (fun _ h_ => h_.1)))); (case side4 => exact (Kd.R_reads' HO304.out).2.1); rintro e w47 ⟨v314, rfl, ho0, hb⟩; refine ⟨_, rfl, ?_⟩; replace HO304 := Aside0.mk (Kd.R_below (by (with_reducible repeat (first | apply Kd.R_alloc | apply Kd.R_drewN | apply Kd.R_drew)); exact (Kd.R_mono (Kd.R_far (p := ⟨gb309, 1, none⟩) (Kd.R_far (p := ⟨gb309, 0, none⟩) (Kd.R_types HO304.out BK309.out (by decide)) (fun _ hk => hk.2) (.int .i64 t306)) (fun _ hk => hk.2) (.int .i64 t307)) (fun _ h_ => h_.1))) hb); have HO315 := Aside0.mk (Kd.R_lower (Kd.R_newB (Kd.R_newB (Kd.R_new' ho0 (Kd.R_lt (by (with_reducible repeat (first | apply Kd.R_alloc | apply Kd.R_drewN | apply Kd.R_drew)); exact (Kd.R_mono (Kd.R_far (p := ⟨gb309, 1, none⟩) (Kd.R_far (p := ⟨gb309, 0, none⟩) (Kd.R_types HO296.out BK309.out (by decide)) (fun _ hk => hk.2) (.int .i64 t306)) (fun _ hk => hk.2) (.int .i64 t307)) (fun _ h_ => h_.1))))) (g := gb290) (o := .cells #[.int .i64 a0_0, .int .i64 a0_1, .string a0_2, .slice A0_3 l0_3.length c0_3] 26 (0, 0)) zw) (g := gb297) (o := .cells #[.int .i64 t291, .int .i64 t292, .string t293, .slice Ao17 t294.length co17] 26 (0, 0)) zw) (below_size zb)); replace HO296 := Aside0.mk (Kd.R_elder' (by (with_reducible repeat (first | apply Kd.R_alloc | apply Kd.R_drewN | apply Kd.R_drew)); exact (Kd.R_mono (Kd.R_far (p := ⟨gb309, 1, none⟩) (Kd.R_far (p := ⟨gb309, 0, none⟩) (Kd.R_types HO296.out BK309.out (by decide)) (fun _ hk => hk.2) (.int .i64 t306)) (fun _ hk => hk.2) (.int .i64 t307)) (fun _ h_ => h_.1))) (Kd.R_base ho0) hb); replace BK290 := (zw2 gb290 #[.int .i64 a0_0, .int .i64 a0_1, .string a0_2, .slice A0_3 l0_3.length c0_3] 26 hb); replace BK297 := (zw2 gb297 #[.int .i64 t291, .int .i64 t292, .string t293, .slice Ao17 t294.length co17] 26 hb); replace BK301 := (zw2 gb301 #[.int .i64 ji8, .int .i64 ji9] 28 hb); replace BK309 := (zw2 gb309 #[.int .i64 t306, .int .i64 t307] 28 hb); replace HB := (zB hb); (try clear hb); (try clear hb2); (try clear hk); (try clear hi); (try clear ho0)) | ((with_reducible refine zD 17 rfl ?_); refine zx 17 #[.int .i64 0, .int .i64 0, .string (⟨#[]⟩ : ByteArray), .slice none 0 0] 26 ?_; intro gb317 hg w48 hbox hb; replace HO296 := Aside0.mk (Kd.R_below (Kd.R_elderB (zR HO296) gb317 (Nat.le_of_eq hg.symm)) hb); replace HO304 := (zRb HO304 hb); replace HO315 := Aside0.mk (Kd.R_below (Kd.R_elderB (zR HO315) gb317 (Nat.le_of_eq hg.symm)) hb); have BK317 := Aside0.mk (hbox); have GW317 := (zq hg : Aside0 (w.heap.size ≤ gb317)); have GE317 := GW317; replace HB := (zB hb); have NB290_317 := (zl hg BK290 : Aside0 (gb290 ≠ gb317)); have NB317_290 := (zl' hg BK290 : Aside0 (gb317 ≠ gb290)); replace BK290 := (zK BK290 hb); have NB297_317 := (zl hg BK297 : Aside0 (gb297 ≠ gb317)); have NB317_297 := (zl' hg BK297 : Aside0 (gb317 ≠ gb297)); replace BK297 := (zK BK297 hb); have NB301_317 := (zl hg BK301 : Aside0 (gb301 ≠ gb317)); have NB317_301 := (zl' hg BK301 : Aside0 (gb317 ≠ gb301)); replace BK301 := (zK BK301 hb); have NB309_317 := (zl hg BK309 : Aside0 (gb309 ≠ gb317)); have NB317_309 := (zl' hg BK309 : Aside0 (gb317 ≠ gb309)); replace BK309 := (zK BK309 hb); clear hb hbox hg; have hnb49 := NB317_290.out; have hnc49 := NB290_317.out; have hnb50 := NB317_297.out; have hnc50 := NB297_317.out; have hnb51 := NB317_301.out; have hnc51 := NB301_317.out; have hnb52 := NB317_309.out; have hnc52 := NB309_317.out; obtain ⟨hcz53_0, hcz53_1, hcz53_2, hcz53_3⟩ := zc4 BK317; obtain ⟨hfz53_0, hfz53_1, hfz53_2, hfz53_3⟩ := zz4 BK317; obtain ⟨Ao54, co54, eo54⟩ := Kd.R_slice HO315.out; subst eo54; obtain ⟨hcz55_0, hcz55_1⟩ := zc2 BK309; obtain ⟨hfz55_0, hfz55_1⟩ := zz2 BK309))
    go_meet
    case rel => exact ⟨_, H', ⟨by first | omega | exact Nat.le_refl _⟩, ⟨by (with_reducible repeat (first | apply Kd.R_alloc | apply Kd.R_drewN | apply Kd.R_drew)); exact Kd.R_mono (Kd.R_far (p := ⟨gb317, 3, none⟩) (Kd.R_far (p := ⟨gb317, 2, none⟩) (Kd.R_far (p := ⟨gb317, 1, none⟩) (Kd.R_far (p := ⟨gb317, 0, none⟩) (Kd.R_mono HO296.out (fun k_ hk => (⟨hk, hk.2⟩ : _ ∧ k_ ≠ gb317))) (fun _ hk => hk.2) (.int .i64 t310)) (fun _ hk => hk.2) (.int .i64 t311)) (fun _ hk => hk.2) (.string t312)) (fun _ hk => hk.2) (.slice Ao54 t313.length co54)) (fun _ hk => ⟨hk.1.1.1.1.2, hk.1.1.1.2⟩)⟩, ⟨zw⟩, ⟨zw⟩, ⟨zw⟩, ⟨zb⟩⟩
   ·rw [if_neg c24] at H; have c24b0 := decide_eq_false c24; clear c24
    (first | rw [c24b0] | (simp only [i64_w, i32_w]; rw [c24b0]) | skip)
    have H' := Aside0.mk H; clear H; go_wp2
    go_meet
    case rel => exact ⟨_, H', ⟨by first | omega | exact Nat.le_refl _⟩, ⟨by (with_reducible repeat (first | apply Kd.R_alloc | apply Kd.R_drewN | apply Kd.R_drew)); exact Kd.R_mono (Kd.R_far (p := ⟨gb301, 1, none⟩) (Kd.R_far (p := ⟨gb301, 0, none⟩) (Kd.R_types HO296.out BK301.out (by decide)) (fun _ hk => hk.2) (.int .i64 ji8)) (fun _ hk => hk.2) (.int .i64 ji9)) (fun _ hk => ⟨hk.1.1.2, hk.1.2⟩)⟩, ⟨zw⟩, ⟨zw⟩, ⟨zw⟩, ⟨zb⟩⟩
  case rest =>
   clear HC10; obtain ⟨kq, HA, HJ9, HO_298003, BK290, BK297, BK301, HB⟩ := hcut
   cases kq with
   | zero => exact absurd HA.out (by simp [marginalialaw05_TreeFound.j0])
   | succ kj9 =>
    have H := HA.out; clear HA; simp only [marginalialaw05_TreeFound.j0] at H; replace H := Option.bind_eq_some_iff.mp H; obtain ⟨⟨t318, t321⟩, A560, H⟩ := H; replace H : ((tree_Span.f kj9 t291 t292 t293 t294 t318).bind fun bt322 => ((tree_At.f kj9 t291 t292 t293 t294 t318).bind fun bt326 => (if t321 = 0 then (if bt322.2.2 = 0 then (if bt326.2.2.2.2 = 0 then (if bt322.1 > ji8 then (none) else (if bt322.2.1 < ji9 then (none) else (marginalialaw05_TreeFound.l0 kj9 t318 0 t291 t292 t293 t294 ji8 ji9 bt326.1 bt326.2.1 bt326.2.2.1 bt326.2.2.2.1))) else (none)) else (none)) else (none)))) = some r := H; have A56 := Aside0.mk A560; clear A560; replace H := Option.bind_eq_some_iff.mp H; obtain ⟨⟨t322, t323, t324⟩, A570, H⟩ := H; replace H : ((tree_At.f kj9 t291 t292 t293 t294 t318).bind fun bt326 => (if t321 = 0 then (if t324 = 0 then (if bt326.2.2.2.2 = 0 then (if t322 > ji8 then (none) else (if t323 < ji9 then (none) else (marginalialaw05_TreeFound.l0 kj9 t318 0 t291 t292 t293 t294 ji8 ji9 bt326.1 bt326.2.1 bt326.2.2.1 bt326.2.2.2.1))) else (none)) else (none)) else (none))) = some r := H; have A57 := Aside0.mk A570; clear A570; replace H := Option.bind_eq_some_iff.mp H; obtain ⟨⟨t326, t327, t328, t329, t332⟩, A580, H⟩ := H; replace H : (if t321 = 0 then (if t324 = 0 then (if t332 = 0 then (if t322 > ji8 then (none) else (if t323 < ji9 then (none) else (marginalialaw05_TreeFound.l0 kj9 t318 0 t291 t292 t293 t294 ji8 ji9 t326 t327 t328 t329))) else (none)) else (none)) else (none)) = some r := H; have A58 := Aside0.mk A580; clear A580; replace H := zi3 H; obtain ⟨c59b0, c59b1, H⟩ := H; replace H := zi3 H; obtain ⟨c60b0, c60b1, H⟩ := H; replace H := zi3 H; obtain ⟨c61b0, c61b1, H⟩ := H; replace H := zj1 H; obtain ⟨c62b0, H⟩ := H; replace H := zj1 H; obtain ⟨c63b0, H⟩ := H; have H' := Aside0.mk H; clear H; have hnb64 := NB297_290.out; have hnc64 := NB290_297.out; have hnb65 := NB297_301.out; have hnc65 := NB301_297.out; obtain ⟨hcz66_0, hcz66_1, hcz66_2, hcz66_3⟩ := zc4 BK297; obtain ⟨hfz66_0, hfz66_1, hfz66_2, hfz66_3⟩ := zz4 BK297; have hnb67 := NB301_290.out; have hnc67 := NB290_301.out; obtain ⟨hcz68_0, hcz68_1⟩ := zc2 BK301; obtain ⟨hfz68_0, hfz68_1⟩ := zz2 BK301
    go_wp2_with (first | ((with_reducible refine zG 17 rfl ?_); refine goesL_ (some 106) rfl rfl Try.func17 (by kernel_rfl) rfl #[.agg #[.int .i64 t291, .int .i64 t292, .string t293, .slice Ao17 t294.length co17], .agg #[.int .i64 ji8, .int .i64 ji9]] rfl (by (try simp only [List.map_toArray, List.map_cons, List.map_nil]); first | done | (simp only [hji8, hji9]; rfl) | rfl | (simp only [List.length_drop, List.length_take]; rfl)) ?_; (with_reducible refine (tree_Cover.calls kj9 t291 t292 t293 _ _ t294 ji8 ji9 t318 t321 _ ?side1 ?side2 A56.out).mono ?_); (case side1 => exact zE' (Kd.R_reads' HO_298003.out).2.2); (case side2 => exact (Kd.R_reads' HO_298003.out).2.1); rintro e w69 ⟨v319, rfl, ho0, hb⟩; refine ⟨_, rfl, ?_⟩; replace HO_298003 := (zRb HO_298003 hb); have HO320 := Aside0.mk (Kd.R_lower ho0 (below_size zb)); replace BK290 := (zK BK290 hb); replace BK297 := (zK BK297 hb); replace BK301 := (zK BK301 hb); replace HB := (zB hb); (try clear hb); (try clear hb2); (try clear hk); (try clear hi); (try clear ho0); obtain ⟨hcz70_0, hcz70_1, hcz70_2, hcz70_3⟩ := zc4 BK297; obtain ⟨hfz70_0, hfz70_1, hfz70_2, hfz70_3⟩ := zz4 BK297; obtain ⟨Ao71, co71, eo71⟩ := Kd.R_slice HO320.out; subst eo71) | ((with_reducible refine zG 48 rfl ?_); refine zg 112 Try.func48 ((tree_Span.calls kj9 t291 t292 t293 _ _ t294 _ _ t318 t322 t323 t324 _ ?side1 ?side2 ?side3 ?side4 A57.out).mono ?_); (case side1 => exact zE' (Kd.R_reads' HO_298003.out).2.2); (case side2 => exact (Kd.R_reads' HO_298003.out).2.1); (case side3 => exact zE' (Kd.R_reads' HO320.out).2.2); (case side4 => exact (Kd.R_reads' HO320.out).2.1); rintro e w72 ⟨rfl, hb⟩; refine ⟨_, rfl, ?_⟩; replace HO_298003 := (zRb HO_298003 hb); replace HO320 := (zRb HO320 hb); replace BK290 := (zK BK290 hb); replace BK297 := (zK BK297 hb); replace BK301 := (zK BK301 hb); replace HB := (zB hb); (try clear hb); (try clear hb2); (try clear hk); (try clear hi)) | ((with_reducible refine zD 21 rfl ?_); refine zx 21 #[.int .i64 0, .int .i64 0] 28 ?_; intro gb325 hg w73 hbox hb; replace HO_298003 := (zRb HO_298003 hb); replace HO320 := (zRb HO320 hb); have BK325 := Aside0.mk (hbox); have GW325 := (zq hg : Aside0 (w.heap.size ≤ gb325)); have GE325 := GW325; replace HB := (zB hb); have NB290_325 := (zl hg BK290 : Aside0 (gb290 ≠ gb325)); have NB325_290 := (zl' hg BK290 : Aside0 (gb325 ≠ gb290)); replace BK290 := (zK BK290 hb); have NB297_325 := (zl hg BK297 : Aside0 (gb297 ≠ gb325)); have NB325_297 := (zl' hg BK297 : Aside0 (gb325 ≠ gb297)); replace BK297 := (zK BK297 hb); have NB301_325 := (zl hg BK301 : Aside0 (gb301 ≠ gb325)); have NB325_301 := (zl' hg BK301 : Aside0 (gb325 ≠ gb301)); replace BK301 := (zK BK301 hb); clear hb hbox hg; have hnb74 := NB325_290.out; have hnc74 := NB290_325.out; have hnb75 := NB325_297.out; have hnc75 := NB297_325.out; have hnb76 := NB325_301.out; have hnc76 := NB301_325.out; obtain ⟨hcz77_0, hcz77_1⟩ := zc2 BK325; obtain ⟨hfz77_0, hfz77_1⟩ := zz2 BK325; obtain ⟨hcz78_0, hcz78_1, hcz78_2, hcz78_3⟩ := zc4 BK297; obtain ⟨hfz78_0, hfz78_1, hfz78_2, hfz78_3⟩ := zz4 BK297) | ((with_reducible refine zG 49 rfl ?_); refine zg 118 Try.func49 ((tree_At.calls kj9 t291 t292 t293 _ _ t294 _ _ t318 t326 t327 t328 t329 t332 _ ?side1 ?side2 ?side3 ?side4 A58.out).mono ?_); (case side1 => refine (Kd.R_reads' (e := 26) (base := w.heap.size) (ok := fun k_ => (k_ ≠ gb290 ∧ k_ ≠ gb297)) (n := t294.length) (c := co17) ?_).2.2; exact (by (with_reducible repeat (first | apply Kd.R_alloc | apply Kd.R_drewN | apply Kd.R_drew)); exact (Kd.R_mono (Kd.R_far (p := ⟨gb325, 1, none⟩) (Kd.R_far (p := ⟨gb325, 0, none⟩) (Kd.R_types HO_298003.out BK325.out (by decide)) (fun _ hk => hk.2) (.int .i64 t322)) (fun _ hk => hk.2) (.int .i64 t323)) (fun _ h_ => h_.1)))); (case side2 => exact (Kd.R_reads' HO_298003.out).2.1); (case side3 => refine (Kd.R_reads' (e := 3) (base := w.heap.size) (ok := fun k_ => True) (n := t318.length) (c := co71) ?_).2.2; exact (by (with_reducible repeat (first | apply Kd.R_alloc | apply Kd.R_drewN | apply Kd.R_drew)); exact (Kd.R_mono (Kd.R_far (p := ⟨gb325, 1, none⟩) (Kd.R_far (p := ⟨gb325, 0, none⟩) (Kd.R_types HO320.out BK325.out (by decide)) (fun _ hk => hk.2) (.int .i64 t322)) (fun _ hk => hk.2) (.int .i64 t323)) (fun _ h_ => h_.1)))); (case side4 => exact (Kd.R_reads' HO320.out).2.1); rintro e w79 ⟨v330, rfl, ho0, hb⟩; refine ⟨_, rfl, ?_⟩; replace HO320 := Aside0.mk (Kd.R_below (by (with_reducible repeat (first | apply Kd.R_alloc | apply Kd.R_drewN | apply Kd.R_drew)); exact (Kd.R_mono (Kd.R_far (p := ⟨gb325, 1, none⟩) (Kd.R_far (p := ⟨gb325, 0, none⟩) (Kd.R_types HO320.out BK325.out (by decide)) (fun _ hk => hk.2) (.int .i64 t322)) (fun _ hk => hk.2) (.int .i64 t323)) (fun _ h_ => h_.1))) hb); have HO331 := Aside0.mk (Kd.R_lower (Kd.R_newB (Kd.R_newB (Kd.R_new' ho0 (Kd.R_lt (by (with_reducible repeat (first | apply Kd.R_alloc | apply Kd.R_drewN | apply Kd.R_drew)); exact (Kd.R_mono (Kd.R_far (p := ⟨gb325, 1, none⟩) (Kd.R_far (p := ⟨gb325, 0, none⟩) (Kd.R_types HO_298003.out BK325.out (by decide)) (fun _ hk => hk.2) (.int .i64 t322)) (fun _ hk => hk.2) (.int .i64 t323)) (fun _ h_ => h_.1))))) (g := gb290) (o := .cells #[.int .i64 a0_0, .int .i64 a0_1, .string a0_2, .slice A0_3 l0_3.length c0_3] 26 (0, 0)) zw) (g := gb297) (o := .cells #[.int .i64 t291, .int .i64 t292, .string t293, .slice Ao17 t294.length co17] 26 (0, 0)) zw) (below_size zb)); replace HO_298003 := Aside0.mk (Kd.R_elder' (by (with_reducible repeat (first | apply Kd.R_alloc | apply Kd.R_drewN | apply Kd.R_drew)); exact (Kd.R_mono (Kd.R_far (p := ⟨gb325, 1, none⟩) (Kd.R_far (p := ⟨gb325, 0, none⟩) (Kd.R_types HO_298003.out BK325.out (by decide)) (fun _ hk => hk.2) (.int .i64 t322)) (fun _ hk => hk.2) (.int .i64 t323)) (fun _ h_ => h_.1))) (Kd.R_base ho0) hb); replace BK290 := (zw2 gb290 #[.int .i64 a0_0, .int .i64 a0_1, .string a0_2, .slice A0_3 l0_3.length c0_3] 26 hb); replace BK297 := (zw2 gb297 #[.int .i64 t291, .int .i64 t292, .string t293, .slice Ao17 t294.length co17] 26 hb); replace BK301 := (zw2 gb301 #[.int .i64 ji8, .int .i64 ji9] 28 hb); replace BK325 := (zw2 gb325 #[.int .i64 t322, .int .i64 t323] 28 hb); replace HB := (zB hb); (try clear hb); (try clear hb2); (try clear hk); (try clear hi); (try clear ho0)) | ((with_reducible refine zD 23 rfl ?_); refine zx 23 #[.int .i64 0, .int .i64 0, .string (⟨#[]⟩ : ByteArray), .slice none 0 0] 26 ?_; intro gb333 hg w80 hbox hb; replace HO_298003 := Aside0.mk (Kd.R_below (Kd.R_elderB (zR HO_298003) gb333 (Nat.le_of_eq hg.symm)) hb); replace HO320 := (zRb HO320 hb); replace HO331 := Aside0.mk (Kd.R_below (Kd.R_elderB (zR HO331) gb333 (Nat.le_of_eq hg.symm)) hb); have BK333 := Aside0.mk (hbox); have GW333 := (zq hg : Aside0 (w.heap.size ≤ gb333)); have GE333 := GW333; replace HB := (zB hb); have NB290_333 := (zl hg BK290 : Aside0 (gb290 ≠ gb333)); have NB333_290 := (zl' hg BK290 : Aside0 (gb333 ≠ gb290)); replace BK290 := (zK BK290 hb); have NB297_333 := (zl hg BK297 : Aside0 (gb297 ≠ gb333)); have NB333_297 := (zl' hg BK297 : Aside0 (gb333 ≠ gb297)); replace BK297 := (zK BK297 hb); have NB301_333 := (zl hg BK301 : Aside0 (gb301 ≠ gb333)); have NB333_301 := (zl' hg BK301 : Aside0 (gb333 ≠ gb301)); replace BK301 := (zK BK301 hb); have NB325_333 := (zl hg BK325 : Aside0 (gb325 ≠ gb333)); have NB333_325 := (zl' hg BK325 : Aside0 (gb333 ≠ gb325)); replace BK325 := (zK BK325 hb); clear hb hbox hg; have hnb81 := NB333_290.out; have hnc81 := NB290_333.out; have hnb82 := NB333_297.out; have hnc82 := NB297_333.out; have hnb83 := NB333_301.out; have hnc83 := NB301_333.out; have hnb84 := NB333_325.out; have hnc84 := NB325_333.out; obtain ⟨hcz85_0, hcz85_1, hcz85_2, hcz85_3⟩ := zc4 BK333; obtain ⟨hfz85_0, hfz85_1, hfz85_2, hfz85_3⟩ := zz4 BK333; obtain ⟨Ao86, co86, eo86⟩ := Kd.R_slice HO331.out; subst eo86; obtain ⟨hcz87_0, hcz87_1⟩ := zc2 BK325; obtain ⟨hfz87_0, hfz87_1⟩ := zz2 BK325; obtain ⟨hcz88_0, hcz88_1⟩ := zc2 BK301; obtain ⟨hfz88_0, hfz88_1⟩ := zz2 BK301))
    go_loopg [25] kj9 (fun kq v25 w' => ∃ (x25_2 : Int), v25 = .int .i64 x25_2 ∧ Aside0 (marginalialaw05_TreeFound.l0 kq t318 x25_2 t291 t292 t293 t294 ji8 ji9 t326 t327 t328 t329 = some r) ∧ Aside0 (kq ≤ kj9) ∧ Aside0 (Kd.R (Kd.int .i64) 3 w' w.heap.size (fun _ => True) (.slice Ao71 t318.length co71) t318) ∧ Aside0 (Kd.R k26 26 w' w.heap.size (fun k_ => some k_ ≠ ((.slice Ao86 t329.length co86) : Value).ownBlock ∧ k_ ≠ gb290 ∧ k_ ≠ gb297 ∧ k_ ≠ gb333) (.slice Ao17 t294.length co17) t294) ∧ Aside0 (Kd.R k26 26 w' w.heap.size (fun k_ => some k_ ≠ ((.slice Ao17 t294.length co17) : Value).ownBlock ∧ k_ ≠ gb290 ∧ k_ ≠ gb297 ∧ k_ ≠ gb333) (.slice Ao86 t329.length co86) t329) ∧ Aside0 (w'.heap[gb290]? = some (.cells #[.int .i64 a0_0, .int .i64 a0_1, .string a0_2, (.slice A0_3 l0_3.length c0_3)] 26 (0, 0))) ∧ Aside0 (w'.heap[gb297]? = some (.cells #[.int .i64 t291, .int .i64 t292, .string t293, (.slice Ao17 t294.length co17)] 26 (0, 0))) ∧ Aside0 (w'.heap[gb301]? = some (.cells #[.int .i64 ji8, .int .i64 ji9] 28 (0, 0))) ∧ Aside0 (w'.heap[gb325]? = some (.cells #[.int .i64 t322, .int .i64 t323] 28 (0, 0))) ∧ Aside0 (w'.heap[gb333]? = some (.cells #[.int .i64 t326, .int .i64 t327, .string t328, (.slice Ao86 t329.length co86)] 26 (0, 0))) ∧ Aside0 (Below w.heap.size w w'))
    case atStart => exact ⟨(0), zs, H', ⟨Nat.le_refl _⟩, ⟨by (with_reducible repeat (first | apply Kd.R_alloc | apply Kd.R_drewN | apply Kd.R_drew)); exact Kd.R_mono (Kd.R_far (p := ⟨gb333, 3, none⟩) (Kd.R_far (p := ⟨gb333, 2, none⟩) (Kd.R_far (p := ⟨gb333, 1, none⟩) (Kd.R_far (p := ⟨gb333, 0, none⟩) (Kd.R_types HO320.out BK333.out (by decide)) (fun _ hk => hk.2) (.int .i64 t326)) (fun _ hk => hk.2) (.int .i64 t327)) (fun _ hk => hk.2) (.string t328)) (fun _ hk => hk.2) (.slice Ao86 t329.length co86)) (fun _ hk => trivial)⟩, ⟨by (with_reducible repeat (first | apply Kd.R_alloc | apply Kd.R_drewN | apply Kd.R_drew)); exact Kd.R_mono (Kd.R_far (p := ⟨gb333, 3, none⟩) (Kd.R_far (p := ⟨gb333, 2, none⟩) (Kd.R_far (p := ⟨gb333, 1, none⟩) (Kd.R_far (p := ⟨gb333, 0, none⟩) (Kd.R_mono HO_298003.out (fun k_ hk => (⟨hk, hk.2⟩ : _ ∧ k_ ≠ gb333))) (fun _ hk => hk.2) (.int .i64 t326)) (fun _ hk => hk.2) (.int .i64 t327)) (fun _ hk => hk.2) (.string t328)) (fun _ hk => hk.2) (.slice Ao86 t329.length co86)) (fun _ hk => ⟨hk.1.1.2, ⟨hk.1.1.1.1, ⟨hk.1.1.1.2, hk.1.2⟩⟩⟩)⟩, ⟨by (with_reducible repeat (first | apply Kd.R_alloc | apply Kd.R_drewN | apply Kd.R_drew)); exact Kd.R_mono (Kd.R_far (p := ⟨gb333, 3, none⟩) (Kd.R_far (p := ⟨gb333, 2, none⟩) (Kd.R_far (p := ⟨gb333, 1, none⟩) (Kd.R_far (p := ⟨gb333, 0, none⟩) (Kd.R_mono HO331.out (fun k_ hk => (⟨hk, hk.2⟩ : _ ∧ k_ ≠ gb333))) (fun _ hk => hk.2) (.int .i64 t326)) (fun _ hk => hk.2) (.int .i64 t327)) (fun _ hk => hk.2) (.string t328)) (fun _ hk => hk.2) (.slice Ao86 t329.length co86)) (fun _ hk => ⟨hk.1.1.1.1.2, ⟨hk.1.1.1.2, ⟨hk.1.1.2, hk.1.2⟩⟩⟩)⟩, ⟨zw⟩, ⟨zw⟩, ⟨zw⟩, ⟨zw⟩, ⟨zw⟩, ⟨zb⟩⟩
    case round =>
     clear H'; obtain ⟨x25_2, rfl, HA, HK2, HO_19, HO_298003, HO_334003, BK290, BK297, BK301, BK325, BK333, HB⟩ := hrel
     cases gk with
     | zero => exact absurd HA.out (by simp [marginalialaw05_TreeFound.l0])
     | succ k2 =>
      have H := HA.out; clear HA; simp only [marginalialaw05_TreeFound.l0] at H; by_cases c89 : x25_2 < (t329.length : Int)
      ·rw [if_pos c89] at H; have c89b0 := decide_eq_true c89; clear c89
       obtain ⟨y334, hy334⟩ : ∃ y_ : List Int, y_ = (([] : List Int)) := ⟨_, rfl⟩
       replace H : (if y334.length + t318.length < 17592186044416 then ((some (y334 ++ t318 : List Int)).bind fun y337 => ((some (([x25_2] : List Int) : List Int)).bind fun y340 => (if y337.length + y340.length < 17592186044416 then ((tree_Span.f k2 t291 t292 t293 t294 (y337 ++ y340)).bind fun bt346 => (if bt346.2.2 = 0 then (if bt346.1 ≤ ji8 then (if bt346.2.1 ≥ ji9 then (none) else (marginalialaw05_TreeFound.l0 k2 t318 (wrap64 (x25_2 + 1)) t291 t292 t293 t294 ji8 ji9 t326 t327 t328 t329)) else (marginalialaw05_TreeFound.l0 k2 t318 (wrap64 (x25_2 + 1)) t291 t292 t293 t294 ji8 ji9 t326 t327 t328 t329)) else (none))) else (none)))) else (none)) = some r := by first | (rw [hy334]; with_reducible exact H) | (have H2_ := (Option.bind_some _ _).symm.trans H; rw [hy334]; with_reducible exact H2_) | (have H2_ := (Option.bind_some _ _).symm.trans H; with_reducible exact H2_) | with_reducible exact H | (rw [hy334]; exact H) | exact H
       have Ny334 := Aside0.mk hy334; clear hy334; replace H := zi H; obtain ⟨c90, H⟩ := H; have LMc90 := Aside0.mk c90; clear c90
       obtain ⟨y337, hy337⟩ : ∃ y_ : List Int, y_ = (y334 ++ t318) := ⟨_, rfl⟩
       replace H : ((some (([x25_2] : List Int) : List Int)).bind fun y340 => (if y337.length + y340.length < 17592186044416 then ((tree_Span.f k2 t291 t292 t293 t294 (y337 ++ y340)).bind fun bt346 => (if bt346.2.2 = 0 then (if bt346.1 ≤ ji8 then (if bt346.2.1 ≥ ji9 then (none) else (marginalialaw05_TreeFound.l0 k2 t318 (wrap64 (x25_2 + 1)) t291 t292 t293 t294 ji8 ji9 t326 t327 t328 t329)) else (marginalialaw05_TreeFound.l0 k2 t318 (wrap64 (x25_2 + 1)) t291 t292 t293 t294 ji8 ji9 t326 t327 t328 t329)) else (none))) else (none))) = some r := by first | (rw [hy337]; with_reducible exact H) | (have H2_ := (Option.bind_some _ _).symm.trans H; rw [hy337]; with_reducible exact H2_) | (have H2_ := (Option.bind_some _ _).symm.trans H; with_reducible exact H2_) | with_reducible exact H | (rw [hy337]; exact H) | exact H
       have Ny337 := Aside0.mk hy337; clear hy337
       obtain ⟨y340, hy340⟩ : ∃ y_ : List Int, y_ = (([x25_2] : List Int)) := ⟨_, rfl⟩
       replace H : (if y337.length + y340.length < 17592186044416 then ((tree_Span.f k2 t291 t292 t293 t294 (y337 ++ y340)).bind fun bt346 => (if bt346.2.2 = 0 then (if bt346.1 ≤ ji8 then (if bt346.2.1 ≥ ji9 then (none) else (marginalialaw05_TreeFound.l0 k2 t318 (wrap64 (x25_2 + 1)) t291 t292 t293 t294 ji8 ji9 t326 t327 t328 t329)) else (marginalialaw05_TreeFound.l0 k2 t318 (wrap64 (x25_2 + 1)) t291 t292 t293 t294 ji8 ji9 t326 t327 t328 t329)) else (none))) else (none)) = some r := by first | (rw [hy340]; with_reducible exact H) | (have H2_ := (Option.bind_some _ _).symm.trans H; rw [hy340]; with_reducible exact H2_) | (have H2_ := (Option.bind_some _ _).symm.trans H; with_reducible exact H2_) | with_reducible exact H | (rw [hy340]; exact H) | exact H
       have Ny340 := Aside0.mk hy340; clear hy340; replace H := zi H; obtain ⟨c91, H⟩ := H; have LMc91 := Aside0.mk c91; clear c91
       obtain ⟨y343, hy343⟩ : ∃ y_ : List Int, y_ = (y337 ++ y340) := ⟨_, rfl⟩
       replace H : ((tree_Span.f k2 t291 t292 t293 t294 y343).bind fun bt346 => (if bt346.2.2 = 0 then (if bt346.1 ≤ ji8 then (if bt346.2.1 ≥ ji9 then (none) else (marginalialaw05_TreeFound.l0 k2 t318 (wrap64 (x25_2 + 1)) t291 t292 t293 t294 ji8 ji9 t326 t327 t328 t329)) else (marginalialaw05_TreeFound.l0 k2 t318 (wrap64 (x25_2 + 1)) t291 t292 t293 t294 ji8 ji9 t326 t327 t328 t329)) else (none))) = some r := by first | (rw [hy343]; with_reducible exact H) | (have H2_ := (Option.bind_some _ _).symm.trans H; rw [hy343]; with_reducible exact H2_) | (have H2_ := (Option.bind_some _ _).symm.trans H; with_reducible exact H2_) | with_reducible exact H | (rw [hy343]; exact H) | exact H
       have Ny343 := Aside0.mk hy343; clear hy343; replace H := Option.bind_eq_some_iff.mp H; obtain ⟨⟨t346, t347, t348⟩, A920, H⟩ := H; replace H : (if t348 = 0 then (if t346 ≤ ji8 then (if t347 ≥ ji9 then (none) else (marginalialaw05_TreeFound.l0 k2 t318 (wrap64 (x25_2 + 1)) t291 t292 t293 t294 ji8 ji9 t326 t327 t328 t329)) else (marginalialaw05_TreeFound.l0 k2 t318 (wrap64 (x25_2 + 1)) t291 t292 t293 t294 ji8 ji9 t326 t327 t328 t329)) else (none)) = some r := H; have A92 := Aside0.mk A920; clear A920; replace H := zi3 H; obtain ⟨c93b0, c93b1, H⟩ := H; have HH_ := Aside0.mk H; clear H; have hnb96 := NB333_290.out; have hnc96 := NB290_333.out; have hnb97 := NB333_297.out; have hnc97 := NB297_333.out; have hnb98 := NB333_301.out; have hnc98 := NB301_333.out; have hnb99 := NB333_325.out; have hnc99 := NB325_333.out; obtain ⟨hcz100_0, hcz100_1, hcz100_2, hcz100_3⟩ := zc4 BK333; obtain ⟨hfz100_0, hfz100_1, hfz100_2, hfz100_3⟩ := zz4 BK333
       try go_wp2
       replace HO_19 := Aside0.mk (Kd.R_drew HO_19.out); replace HO_298003 := Aside0.mk (Kd.R_drew HO_298003.out); replace HO_334003 := Aside0.mk (Kd.R_drew HO_334003.out); replace BK290 := Aside0.mk (blk_drew BK290.out); replace BK297 := Aside0.mk (blk_drew BK297.out); replace BK301 := Aside0.mk (blk_drew BK301.out); replace BK325 := Aside0.mk (blk_drew BK325.out); replace BK333 := Aside0.mk (blk_drew BK333.out); replace HB := Aside0.mk (below_drew1 HB.out); refine start_ (n := 14) (S := fun w' => w'.cell? ⟨gb297, 0, none⟩ = some (.int .i64 t291) ∧ w'.cell? ⟨gb297, 1, none⟩ = some (.int .i64 t292) ∧ w'.cell? ⟨gb297, 2, none⟩ = some (.string t293) ∧ w'.cell? ⟨gb297, 3, none⟩ = some (.slice Ao17 t294.length co17)) (ds := []) #[false, false, false, false, false, false, false, false, false, false, false, false, false, false] (by kernel_rfl) rfl rfl ⟨(blk_cell BK297.out 0).trans rfl, (blk_cell BK297.out 1).trans rfl, (blk_cell BK297.out 2).trans rfl, (blk_cell BK297.out 3).trans rfl⟩ (fun hHeld => ?_); refine with_tabW marginalialaw05_TreeFound.tab21 marginalialaw05_TreeFound.bits21 (fun HT_ HW_ => ?_); generalize wr.drew = w101 at HO_19 HO_298003 HO_334003 BK290 BK297 BK301 BK325 BK333 HB hHeld ⊢; refine zp 2 155 HT_ ?_; refine zp 4 157 HT_ ?_; refine zy 0 153 HT_ HW_ hHeld ?_; refine join_ (σ := Value × Value × Value × Value × Nat) 2 #[true, true, true, true, true, true, true, true, true, true, true, true, false, false] (fun s_ => [(154, s_.1), (156, s_.2.1), (158, s_.2.2.1), (159, s_.2.2.2.1), (160, .tuple #[.agg #[.int .i64 t346, .int .i64 t347], .int .i64 t348]), (26, .pointer (some ⟨s_.2.2.2.2, 0, none⟩)), (152, .tuple #[.agg #[.int .i64 t346, .int .i64 t347], .int .i64 t348]), (161, .agg #[.int .i64 t346, .int .i64 t347]), (162, .int .i64 t348)]) (fun s_ w' => (w'.cell? ⟨gb297, 0, none⟩ = some (.int .i64 t291) ∧ w'.cell? ⟨gb297, 1, none⟩ = some (.int .i64 t292) ∧ w'.cell? ⟨gb297, 2, none⟩ = some (.string t293) ∧ w'.cell? ⟨gb297, 3, none⟩ = some (.slice Ao17 t294.length co17)) ∧ (Kd.R (Kd.int .i64) 3 w' w.heap.size (fun k_ => some k_ ≠ (s_.2.2.2.1 : Value).ownBlock ∧ some k_ ≠ (.slice Ao71 t318.length co71 : Value).ownBlock) s_.2.2.1 y340) ∧ (Kd.R (Kd.int .i64) 3 w' w.heap.size (fun k_ => some k_ ≠ (s_.2.2.1 : Value).ownBlock ∧ some k_ ≠ (.slice Ao71 t318.length co71 : Value).ownBlock) s_.2.2.2.1 y343) ∧ (Kd.R (Kd.int .i64) 3 w' w.heap.size (fun k_ => some k_ ≠ (s_.2.2.1 : Value).ownBlock ∧ some k_ ≠ (s_.2.2.2.1 : Value).ownBlock) (.slice Ao71 t318.length co71) t318) ∧ (Kd.R k26 26 w' w.heap.size (fun k_ => some k_ ≠ (.slice Ao86 t329.length co86 : Value).ownBlock ∧ k_ ≠ gb290 ∧ k_ ≠ gb297 ∧ k_ ≠ gb333) (.slice Ao17 t294.length co17) t294) ∧ (Kd.R k26 26 w' w.heap.size (fun k_ => some k_ ≠ (.slice Ao17 t294.length co17 : Value).ownBlock ∧ k_ ≠ gb290 ∧ k_ ≠ gb297 ∧ k_ ≠ gb333) (.slice Ao86 t329.length co86) t329) ∧ (w'.heap[gb290]? = some (.cells #[.int .i64 a0_0, .int .i64 a0_1, .string a0_2, .slice A0_3 l0_3.length c0_3] 26 (0, 0))) ∧ (w'.heap[gb297]? = some (.cells #[.int .i64 t291, .int .i64 t292, .string t293, .slice Ao17 t294.length co17] 26 (0, 0))) ∧ (w'.heap[gb301]? = some (.cells #[.int .i64 ji8, .int .i64 ji9] 28 (0, 0))) ∧ (w'.heap[gb325]? = some (.cells #[.int .i64 t322, .int .i64 t323] 28 (0, 0))) ∧ (w'.heap[gb333]? = some (.cells #[.int .i64 t326, .int .i64 t327, .string t328, .slice Ao86 t329.length co86] 26 (0, 0))) ∧ (w'.heap[s_.2.2.2.2]? = some (.cells #[.int .i64 0, .int .i64 0] 28 (0, 0))) ∧ (w.heap.size ≤ s_.2.2.2.2) ∧ (w.heap.size ≤ s_.2.2.2.2) ∧ (gb290 ≠ s_.2.2.2.2) ∧ (s_.2.2.2.2 ≠ gb290) ∧ (gb297 ≠ s_.2.2.2.2) ∧ (s_.2.2.2.2 ≠ gb297) ∧ (gb301 ≠ s_.2.2.2.2) ∧ (s_.2.2.2.2 ≠ gb301) ∧ (gb325 ≠ s_.2.2.2.2) ∧ (s_.2.2.2.2 ≠ gb325) ∧ (gb333 ≠ s_.2.2.2.2) ∧ (s_.2.2.2.2 ≠ gb333) ∧ (Below w.heap.size w w')) ?_ ?_; rotate_left
       ·intro hJ1_3_5_6_7_11; refine join_ (σ := Value × Value × Value × Value) 3 #[true, true, true, true, true, true, true, true, true, true, true, false, false, false] (fun s_ => [(154, s_.1), (156, s_.2.1), (158, s_.2.2.1), (159, s_.2.2.2), (160, .tuple #[.agg #[.int .i64 t346, .int .i64 t347], .int .i64 t348]), (152, .tuple #[.agg #[.int .i64 t346, .int .i64 t347], .int .i64 t348]), (161, .agg #[.int .i64 t346, .int .i64 t347]), (162, .int .i64 t348)]) (fun s_ w' => (w'.cell? ⟨gb297, 0, none⟩ = some (.int .i64 t291) ∧ w'.cell? ⟨gb297, 1, none⟩ = some (.int .i64 t292) ∧ w'.cell? ⟨gb297, 2, none⟩ = some (.string t293) ∧ w'.cell? ⟨gb297, 3, none⟩ = some (.slice Ao17 t294.length co17)) ∧ (Kd.R (Kd.int .i64) 3 w' w.heap.size (fun k_ => some k_ ≠ (s_.2.2.2 : Value).ownBlock ∧ some k_ ≠ (.slice Ao71 t318.length co71 : Value).ownBlock) s_.2.2.1 y340) ∧ (Kd.R (Kd.int .i64) 3 w' w.heap.size (fun k_ => some k_ ≠ (s_.2.2.1 : Value).ownBlock ∧ some k_ ≠ (.slice Ao71 t318.length co71 : Value).ownBlock) s_.2.2.2 y343) ∧ (Kd.R (Kd.int .i64) 3 w' w.heap.size (fun k_ => some k_ ≠ (s_.2.2.1 : Value).ownBlock ∧ some k_ ≠ (s_.2.2.2 : Value).ownBlock) (.slice Ao71 t318.length co71) t318) ∧ (Kd.R k26 26 w' w.heap.size (fun k_ => some k_ ≠ (.slice Ao86 t329.length co86 : Value).ownBlock ∧ k_ ≠ gb290 ∧ k_ ≠ gb297 ∧ k_ ≠ gb333) (.slice Ao17 t294.length co17) t294) ∧ (Kd.R k26 26 w' w.heap.size (fun k_ => some k_ ≠ (.slice Ao17 t294.length co17 : Value).ownBlock ∧ k_ ≠ gb290 ∧ k_ ≠ gb297 ∧ k_ ≠ gb333) (.slice Ao86 t329.length co86) t329) ∧ (w'.heap[gb290]? = some (.cells #[.int .i64 a0_0, .int .i64 a0_1, .string a0_2, .slice A0_3 l0_3.length c0_3] 26 (0, 0))) ∧ (w'.heap[gb297]? = some (.cells #[.int .i64 t291, .int .i64 t292, .string t293, .slice Ao17 t294.length co17] 26 (0, 0))) ∧ (w'.heap[gb301]? = some (.cells #[.int .i64 ji8, .int .i64 ji9] 28 (0, 0))) ∧ (w'.heap[gb325]? = some (.cells #[.int .i64 t322, .int .i64 t323] 28 (0, 0))) ∧ (w'.heap[gb333]? = some (.cells #[.int .i64 t326, .int .i64 t327, .string t328, .slice Ao86 t329.length co86] 26 (0, 0))) ∧ (Below w.heap.size w w')) ?_ ?_; rotate_left
        ·intro hJ1_3_5_6_7; refine join_ (σ := Value × Value × Value × Value × Nat) 6 #[true, true, true, true, true, true, true, false, false, false, false, true, false, false] (fun s_ => [(154, s_.1), (156, s_.2.1), (158, s_.2.2.1), (159, s_.2.2.2.1), (26, .pointer (some ⟨s_.2.2.2.2, 0, none⟩))]) (fun s_ w' => (w'.cell? ⟨gb297, 0, none⟩ = some (.int .i64 t291) ∧ w'.cell? ⟨gb297, 1, none⟩ = some (.int .i64 t292) ∧ w'.cell? ⟨gb297, 2, none⟩ = some (.string t293) ∧ w'.cell? ⟨gb297, 3, none⟩ = some (.slice Ao17 t294.length co17)) ∧ (Kd.R (Kd.int .i64) 3 w' w.heap.size (fun k_ => some k_ ≠ (s_.2.2.2.1 : Value).ownBlock ∧ some k_ ≠ (.slice Ao71 t318.length co71 : Value).ownBlock) s_.2.2.1 y340) ∧ (Kd.R (Kd.int .i64) 3 w' w.heap.size (fun k_ => some k_ ≠ (s_.2.2.1 : Value).ownBlock ∧ some k_ ≠ (.slice Ao71 t318.length co71 : Value).ownBlock) s_.2.2.2.1 y343) ∧ (Kd.R (Kd.int .i64) 3 w' w.heap.size (fun k_ => some k_ ≠ (s_.2.2.1 : Value).ownBlock ∧ some k_ ≠ (s_.2.2.2.1 : Value).ownBlock) (.slice Ao71 t318.length co71) t318) ∧ (Kd.R k26 26 w' w.heap.size (fun k_ => some k_ ≠ (.slice Ao86 t329.length co86 : Value).ownBlock ∧ k_ ≠ gb290 ∧ k_ ≠ gb297 ∧ k_ ≠ gb333) (.slice Ao17 t294.length co17) t294) ∧ (Kd.R k26 26 w' w.heap.size (fun k_ => some k_ ≠ (.slice Ao17 t294.length co17 : Value).ownBlock ∧ k_ ≠ gb290 ∧ k_ ≠ gb297 ∧ k_ ≠ gb333) (.slice Ao86 t329.length co86) t329) ∧ (w'.heap[gb290]? = some (.cells #[.int .i64 a0_0, .int .i64 a0_1, .string a0_2, .slice A0_3 l0_3.length c0_3] 26 (0, 0))) ∧ (w'.heap[gb297]? = some (.cells #[.int .i64 t291, .int .i64 t292, .string t293, .slice Ao17 t294.length co17] 26 (0, 0))) ∧ (w'.heap[gb301]? = some (.cells #[.int .i64 ji8, .int .i64 ji9] 28 (0, 0))) ∧ (w'.heap[gb325]? = some (.cells #[.int .i64 t322, .int .i64 t323] 28 (0, 0))) ∧ (w'.heap[gb333]? = some (.cells #[.int .i64 t326, .int .i64 t327, .string t328, .slice Ao86 t329.length co86] 26 (0, 0))) ∧ (w'.heap[s_.2.2.2.2]? = some (.cells #[.int .i64 0, .int .i64 0] 28 (0, 0))) ∧ (w.heap.size ≤ s_.2.2.2.2) ∧ (w.heap.size ≤ s_.2.2.2.2) ∧ (gb290 ≠ s_.2.2.2.2) ∧ (s_.2.2.2.2 ≠ gb290) ∧ (gb297 ≠ s_.2.2.2.2) ∧ (s_.2.2.2.2 ≠ gb297) ∧ (gb301 ≠ s_.2.2.2.2) ∧ (s_.2.2.2.2 ≠ gb301) ∧ (gb325 ≠ s_.2.2.2.2) ∧ (s_.2.2.2.2 ≠ gb325) ∧ (gb333 ≠ s_.2.2.2.2) ∧ (s_.2.2.2.2 ≠ gb333) ∧ (Below w.heap.size w w')) ?_ ?_; rotate_left
         ·intro hJ1_3_5_6_11; refine join_ (σ := Value × Value × Value × Value) 7 #[true, true, true, true, true, true, true, false, false, false, false, false, false, false] (fun s_ => [(154, s_.1), (156, s_.2.1), (158, s_.2.2.1), (159, s_.2.2.2)]) (fun s_ w' => (w'.cell? ⟨gb297, 0, none⟩ = some (.int .i64 t291) ∧ w'.cell? ⟨gb297, 1, none⟩ = some (.int .i64 t292) ∧ w'.cell? ⟨gb297, 2, none⟩ = some (.string t293) ∧ w'.cell? ⟨gb297, 3, none⟩ = some (.slice Ao17 t294.length co17)) ∧ (Kd.R (Kd.int .i64) 3 w' w.heap.size (fun k_ => some k_ ≠ (s_.2.2.2 : Value).ownBlock ∧ some k_ ≠ (.slice Ao71 t318.length co71 : Value).ownBlock) s_.2.2.1 y340) ∧ (Kd.R (Kd.int .i64) 3 w' w.heap.size (fun k_ => some k_ ≠ (s_.2.2.1 : Value).ownBlock ∧ some k_ ≠ (.slice Ao71 t318.length co71 : Value).ownBlock) s_.2.2.2 y343) ∧ (Kd.R (Kd.int .i64) 3 w' w.heap.size (fun k_ => some k_ ≠ (s_.2.2.1 : Value).ownBlock ∧ some k_ ≠ (s_.2.2.2 : Value).ownBlock) (.slice Ao71 t318.length co71) t318) ∧ (Kd.R k26 26 w' w.heap.size (fun k_ => some k_ ≠ (.slice Ao86 t329.length co86 : Value).ownBlock ∧ k_ ≠ gb290 ∧ k_ ≠ gb297 ∧ k_ ≠ gb333) (.slice Ao17 t294.length co17) t294) ∧ (Kd.R k26 26 w' w.heap.size (fun k_ => some k_ ≠ (.slice Ao17 t294.length co17 : Value).ownBlock ∧ k_ ≠ gb290 ∧ k_ ≠ gb297 ∧ k_ ≠ gb333) (.slice Ao86 t329.length co86) t329) ∧ (w'.heap[gb290]? = some (.cells #[.int .i64 a0_0, .int .i64 a0_1, .string a0_2, .slice A0_3 l0_3.length c0_3] 26 (0, 0))) ∧ (w'.heap[gb297]? = some (.cells #[.int .i64 t291, .int .i64 t292, .string t293, .slice Ao17 t294.length co17] 26 (0, 0))) ∧ (w'.heap[gb301]? = some (.cells #[.int .i64 ji8, .int .i64 ji9] 28 (0, 0))) ∧ (w'.heap[gb325]? = some (.cells #[.int .i64 t322, .int .i64 t323] 28 (0, 0))) ∧ (w'.heap[gb333]? = some (.cells #[.int .i64 t326, .int .i64 t327, .string t328, .slice Ao86 t329.length co86] 26 (0, 0))) ∧ (Below w.heap.size w w')) ?_ ?_; rotate_left
          ·intro hJ1_3_5_6; refine join_ (σ := Value × Value × Value × Nat) 7 #[true, true, true, true, true, true, false, false, false, false, false, true, false, false] (fun s_ => [(154, s_.1), (156, s_.2.1), (158, s_.2.2.1), (26, .pointer (some ⟨s_.2.2.2, 0, none⟩))]) (fun s_ w' => (w'.cell? ⟨gb297, 0, none⟩ = some (.int .i64 t291) ∧ w'.cell? ⟨gb297, 1, none⟩ = some (.int .i64 t292) ∧ w'.cell? ⟨gb297, 2, none⟩ = some (.string t293) ∧ w'.cell? ⟨gb297, 3, none⟩ = some (.slice Ao17 t294.length co17)) ∧ (Kd.R (Kd.int .i64) 3 w' w.heap.size (fun k_ => some k_ ≠ (s_.2.2.1 : Value).ownBlock ∧ some k_ ≠ (.slice Ao71 t318.length co71 : Value).ownBlock) s_.2.1 y337) ∧ (Kd.R (Kd.int .i64) 3 w' w.heap.size (fun k_ => some k_ ≠ (s_.2.1 : Value).ownBlock ∧ some k_ ≠ (.slice Ao71 t318.length co71 : Value).ownBlock) s_.2.2.1 y340) ∧ (Kd.R (Kd.int .i64) 3 w' w.heap.size (fun k_ => some k_ ≠ (s_.2.1 : Value).ownBlock ∧ some k_ ≠ (s_.2.2.1 : Value).ownBlock) (.slice Ao71 t318.length co71) t318) ∧ (Kd.R k26 26 w' w.heap.size (fun k_ => some k_ ≠ (.slice Ao86 t329.length co86 : Value).ownBlock ∧ k_ ≠ gb290 ∧ k_ ≠ gb297 ∧ k_ ≠ gb333) (.slice Ao17 t294.length co17) t294) ∧ (Kd.R k26 26 w' w.heap.size (fun k_ => some k_ ≠ (.slice Ao17 t294.length co17 : Value).ownBlock ∧ k_ ≠ gb290 ∧ k_ ≠ gb297 ∧ k_ ≠ gb333) (.slice Ao86 t329.length co86) t329) ∧ (w'.heap[gb290]? = some (.cells #[.int .i64 a0_0, .int .i64 a0_1, .string a0_2, .slice A0_3 l0_3.length c0_3] 26 (0, 0))) ∧ (w'.heap[gb297]? = some (.cells #[.int .i64 t291, .int .i64 t292, .string t293, .slice Ao17 t294.length co17] 26 (0, 0))) ∧ (w'.heap[gb301]? = some (.cells #[.int .i64 ji8, .int .i64 ji9] 28 (0, 0))) ∧ (w'.heap[gb325]? = some (.cells #[.int .i64 t322, .int .i64 t323] 28 (0, 0))) ∧ (w'.heap[gb333]? = some (.cells #[.int .i64 t326, .int .i64 t327, .string t328, .slice Ao86 t329.length co86] 26 (0, 0))) ∧ (w'.heap[s_.2.2.2]? = some (.cells #[.int .i64 0, .int .i64 0] 28 (0, 0))) ∧ (w.heap.size ≤ s_.2.2.2) ∧ (w.heap.size ≤ s_.2.2.2) ∧ (gb290 ≠ s_.2.2.2) ∧ (s_.2.2.2 ≠ gb290) ∧ (gb297 ≠ s_.2.2.2) ∧ (s_.2.2.2 ≠ gb297) ∧ (gb301 ≠ s_.2.2.2) ∧ (s_.2.2.2 ≠ gb301) ∧ (gb325 ≠ s_.2.2.2) ∧ (s_.2.2.2 ≠ gb325) ∧ (gb333 ≠ s_.2.2.2) ∧ (s_.2.2.2 ≠ gb333) ∧ (Below w.heap.size w w')) ?_ ?_; rotate_left
           ·intro hJ1_3_5_11; refine join_ (σ := Value × Value × Value) 8 #[true, true, true, true, true, true, false, false, false, false, false, false, false, false] (fun s_ => [(154, s_.1), (156, s_.2.1), (158, s_.2.2)]) (fun s_ w' => (w'.cell? ⟨gb297, 0, none⟩ = some (.int .i64 t291) ∧ w'.cell? ⟨gb297, 1, none⟩ = some (.int .i64 t292) ∧ w'.cell? ⟨gb297, 2, none⟩ = some (.string t293) ∧ w'.cell? ⟨gb297, 3, none⟩ = some (.slice Ao17 t294.length co17)) ∧ (Kd.R (Kd.int .i64) 3 w' w.heap.size (fun k_ => some k_ ≠ (s_.2.2 : Value).ownBlock ∧ some k_ ≠ (.slice Ao71 t318.length co71 : Value).ownBlock) s_.2.1 y337) ∧ (Kd.R (Kd.int .i64) 3 w' w.heap.size (fun k_ => some k_ ≠ (s_.2.1 : Value).ownBlock ∧ some k_ ≠ (.slice Ao71 t318.length co71 : Value).ownBlock) s_.2.2 y340) ∧ (Kd.R (Kd.int .i64) 3 w' w.heap.size (fun k_ => some k_ ≠ (s_.2.1 : Value).ownBlock ∧ some k_ ≠ (s_.2.2 : Value).ownBlock) (.slice Ao71 t318.length co71) t318) ∧ (Kd.R k26 26 w' w.heap.size (fun k_ => some k_ ≠ (.slice Ao86 t329.length co86 : Value).ownBlock ∧ k_ ≠ gb290 ∧ k_ ≠ gb297 ∧ k_ ≠ gb333) (.slice Ao17 t294.length co17) t294) ∧ (Kd.R k26 26 w' w.heap.size (fun k_ => some k_ ≠ (.slice Ao17 t294.length co17 : Value).ownBlock ∧ k_ ≠ gb290 ∧ k_ ≠ gb297 ∧ k_ ≠ gb333) (.slice Ao86 t329.length co86) t329) ∧ (w'.heap[gb290]? = some (.cells #[.int .i64 a0_0, .int .i64 a0_1, .string a0_2, .slice A0_3 l0_3.length c0_3] 26 (0, 0))) ∧ (w'.heap[gb297]? = some (.cells #[.int .i64 t291, .int .i64 t292, .string t293, .slice Ao17 t294.length co17] 26 (0, 0))) ∧ (w'.heap[gb301]? = some (.cells #[.int .i64 ji8, .int .i64 ji9] 28 (0, 0))) ∧ (w'.heap[gb325]? = some (.cells #[.int .i64 t322, .int .i64 t323] 28 (0, 0))) ∧ (w'.heap[gb333]? = some (.cells #[.int .i64 t326, .int .i64 t327, .string t328, .slice Ao86 t329.length co86] 26 (0, 0))) ∧ (Below w.heap.size w w')) ?_ ?_; rotate_left
            ·intro hJ1_3_5; refine join_ (σ := Value × Value × Nat) 8 #[true, true, true, true, true, false, false, false, false, false, false, true, false, false] (fun s_ => [(154, s_.1), (156, s_.2.1), (26, .pointer (some ⟨s_.2.2, 0, none⟩))]) (fun s_ w' => (w'.cell? ⟨gb297, 0, none⟩ = some (.int .i64 t291) ∧ w'.cell? ⟨gb297, 1, none⟩ = some (.int .i64 t292) ∧ w'.cell? ⟨gb297, 2, none⟩ = some (.string t293) ∧ w'.cell? ⟨gb297, 3, none⟩ = some (.slice Ao17 t294.length co17)) ∧ (Kd.R (Kd.int .i64) 3 w' w.heap.size (fun k_ => some k_ ≠ (.slice Ao71 t318.length co71 : Value).ownBlock) s_.2.1 y337) ∧ (Kd.R (Kd.int .i64) 3 w' w.heap.size (fun k_ => some k_ ≠ (s_.2.1 : Value).ownBlock) (.slice Ao71 t318.length co71) t318) ∧ (Kd.R k26 26 w' w.heap.size (fun k_ => some k_ ≠ (.slice Ao86 t329.length co86 : Value).ownBlock ∧ k_ ≠ gb290 ∧ k_ ≠ gb297 ∧ k_ ≠ gb333) (.slice Ao17 t294.length co17) t294) ∧ (Kd.R k26 26 w' w.heap.size (fun k_ => some k_ ≠ (.slice Ao17 t294.length co17 : Value).ownBlock ∧ k_ ≠ gb290 ∧ k_ ≠ gb297 ∧ k_ ≠ gb333) (.slice Ao86 t329.length co86) t329) ∧ (w'.heap[gb290]? = some (.cells #[.int .i64 a0_0, .int .i64 a0_1, .string a0_2, .slice A0_3 l0_3.length c0_3] 26 (0, 0))) ∧ (w'.heap[gb297]? = some (.cells #[.int .i64 t291, .int .i64 t292, .string t293, .slice Ao17 t294.length co17] 26 (0, 0))) ∧ (w'.heap[gb301]? = some (.cells #[.int .i64 ji8, .int .i64 ji9] 28 (0, 0))) ∧ (w'.heap[gb325]? = some (.cells #[.int .i64 t322, .int .i64 t323] 28 (0, 0))) ∧ (w'.heap[gb333]? = some (.cells #[.int .i64 t326, .int .i64 t327, .string t328, .slice Ao86 t329.length co86] 26 (0, 0))) ∧ (w'.heap[s_.2.2]? = some (.cells #[.int .i64 0, .int .i64 0] 28 (0, 0))) ∧ (w.heap.size ≤ s_.2.2) ∧ (w.heap.size ≤ s_.2.2) ∧ (gb290 ≠ s_.2.2) ∧ (s_.2.2 ≠ gb290) ∧ (gb297 ≠ s_.2.2) ∧ (s_.2.2 ≠ gb297) ∧ (gb301 ≠ s_.2.2) ∧ (s_.2.2 ≠ gb301) ∧ (gb325 ≠ s_.2.2) ∧ (s_.2.2 ≠ gb325) ∧ (gb333 ≠ s_.2.2) ∧ (s_.2.2 ≠ gb333) ∧ (Below w.heap.size w w')) ?_ ?_; rotate_left
             ·intro hJ1_3_11; refine join_ (σ := Value × Value × Nat) 8 #[true, true, true, false, true, true, false, false, false, false, false, true, false, false] (fun s_ => [(154, s_.1), (158, s_.2.1), (26, .pointer (some ⟨s_.2.2, 0, none⟩))]) (fun s_ w' => (w'.cell? ⟨gb297, 0, none⟩ = some (.int .i64 t291) ∧ w'.cell? ⟨gb297, 1, none⟩ = some (.int .i64 t292) ∧ w'.cell? ⟨gb297, 2, none⟩ = some (.string t293) ∧ w'.cell? ⟨gb297, 3, none⟩ = some (.slice Ao17 t294.length co17)) ∧ (Kd.R (Kd.int .i64) 3 w' w.heap.size (fun k_ => some k_ ≠ (s_.2.1 : Value).ownBlock ∧ some k_ ≠ (.slice Ao71 t318.length co71 : Value).ownBlock) s_.1 y334) ∧ (Kd.R (Kd.int .i64) 3 w' w.heap.size (fun k_ => some k_ ≠ (s_.1 : Value).ownBlock ∧ some k_ ≠ (.slice Ao71 t318.length co71 : Value).ownBlock) s_.2.1 y340) ∧ (Kd.R (Kd.int .i64) 3 w' w.heap.size (fun k_ => some k_ ≠ (s_.1 : Value).ownBlock ∧ some k_ ≠ (s_.2.1 : Value).ownBlock) (.slice Ao71 t318.length co71) t318) ∧ (Kd.R k26 26 w' w.heap.size (fun k_ => some k_ ≠ (.slice Ao86 t329.length co86 : Value).ownBlock ∧ k_ ≠ gb290 ∧ k_ ≠ gb297 ∧ k_ ≠ gb333) (.slice Ao17 t294.length co17) t294) ∧ (Kd.R k26 26 w' w.heap.size (fun k_ => some k_ ≠ (.slice Ao17 t294.length co17 : Value).ownBlock ∧ k_ ≠ gb290 ∧ k_ ≠ gb297 ∧ k_ ≠ gb333) (.slice Ao86 t329.length co86) t329) ∧ (w'.heap[gb290]? = some (.cells #[.int .i64 a0_0, .int .i64 a0_1, .string a0_2, .slice A0_3 l0_3.length c0_3] 26 (0, 0))) ∧ (w'.heap[gb297]? = some (.cells #[.int .i64 t291, .int .i64 t292, .string t293, .slice Ao17 t294.length co17] 26 (0, 0))) ∧ (w'.heap[gb301]? = some (.cells #[.int .i64 ji8, .int .i64 ji9] 28 (0, 0))) ∧ (w'.heap[gb325]? = some (.cells #[.int .i64 t322, .int .i64 t323] 28 (0, 0))) ∧ (w'.heap[gb333]? = some (.cells #[.int .i64 t326, .int .i64 t327, .string t328, .slice Ao86 t329.length co86] 26 (0, 0))) ∧ (w'.heap[s_.2.2]? = some (.cells #[.int .i64 0, .int .i64 0] 28 (0, 0))) ∧ (w.heap.size ≤ s_.2.2) ∧ (w.heap.size ≤ s_.2.2) ∧ (gb290 ≠ s_.2.2) ∧ (s_.2.2 ≠ gb290) ∧ (gb297 ≠ s_.2.2) ∧ (s_.2.2 ≠ gb297) ∧ (gb301 ≠ s_.2.2) ∧ (s_.2.2 ≠ gb301) ∧ (gb325 ≠ s_.2.2) ∧ (s_.2.2 ≠ gb325) ∧ (gb333 ≠ s_.2.2) ∧ (s_.2.2 ≠ gb333) ∧ (Below w.heap.size w w')) ?_ ?_; rotate_left
              ·intro hJ1_5_11; refine join_ (σ := Value × Value) 9 #[true, true, true, true, true, false, false, false, false, false, false, false, false, false] (fun s_ => [(154, s_.1), (156, s_.2)]) (fun s_ w' => (w'.cell? ⟨gb297, 0, none⟩ = some (.int .i64 t291) ∧ w'.cell? ⟨gb297, 1, none⟩ = some (.int .i64 t292) ∧ w'.cell? ⟨gb297, 2, none⟩ = some (.string t293) ∧ w'.cell? ⟨gb297, 3, none⟩ = some (.slice Ao17 t294.length co17)) ∧ (Kd.R (Kd.int .i64) 3 w' w.heap.size (fun k_ => some k_ ≠ (.slice Ao71 t318.length co71 : Value).ownBlock) s_.2 y337) ∧ (Kd.R (Kd.int .i64) 3 w' w.heap.size (fun k_ => some k_ ≠ (s_.2 : Value).ownBlock) (.slice Ao71 t318.length co71) t318) ∧ (Kd.R k26 26 w' w.heap.size (fun k_ => some k_ ≠ (.slice Ao86 t329.length co86 : Value).ownBlock ∧ k_ ≠ gb290 ∧ k_ ≠ gb297 ∧ k_ ≠ gb333) (.slice Ao17 t294.length co17) t294) ∧ (Kd.R k26 26 w' w.heap.size (fun k_ => some k_ ≠ (.slice Ao17 t294.length co17 : Value).ownBlock ∧ k_ ≠ gb290 ∧ k_ ≠ gb297 ∧ k_ ≠ gb333) (.slice Ao86 t329.length co86) t329) ∧ (w'.heap[gb290]? = some (.cells #[.int .i64 a0_0, .int .i64 a0_1, .string a0_2, .slice A0_3 l0_3.length c0_3] 26 (0, 0))) ∧ (w'.heap[gb297]? = some (.cells #[.int .i64 t291, .int .i64 t292, .string t293, .slice Ao17 t294.length co17] 26 (0, 0))) ∧ (w'.heap[gb301]? = some (.cells #[.int .i64 ji8, .int .i64 ji9] 28 (0, 0))) ∧ (w'.heap[gb325]? = some (.cells #[.int .i64 t322, .int .i64 t323] 28 (0, 0))) ∧ (w'.heap[gb333]? = some (.cells #[.int .i64 t326, .int .i64 t327, .string t328, .slice Ao86 t329.length co86] 26 (0, 0))) ∧ (Below w.heap.size w w')) ?_ ?_; rotate_left
               ·intro hJ1_3; refine join_ (σ := Value × Value) 9 #[true, true, true, false, true, true, false, false, false, false, false, false, false, false] (fun s_ => [(154, s_.1), (158, s_.2)]) (fun s_ w' => (w'.cell? ⟨gb297, 0, none⟩ = some (.int .i64 t291) ∧ w'.cell? ⟨gb297, 1, none⟩ = some (.int .i64 t292) ∧ w'.cell? ⟨gb297, 2, none⟩ = some (.string t293) ∧ w'.cell? ⟨gb297, 3, none⟩ = some (.slice Ao17 t294.length co17)) ∧ (Kd.R (Kd.int .i64) 3 w' w.heap.size (fun k_ => some k_ ≠ (s_.2 : Value).ownBlock ∧ some k_ ≠ (.slice Ao71 t318.length co71 : Value).ownBlock) s_.1 y334) ∧ (Kd.R (Kd.int .i64) 3 w' w.heap.size (fun k_ => some k_ ≠ (s_.1 : Value).ownBlock ∧ some k_ ≠ (.slice Ao71 t318.length co71 : Value).ownBlock) s_.2 y340) ∧ (Kd.R (Kd.int .i64) 3 w' w.heap.size (fun k_ => some k_ ≠ (s_.1 : Value).ownBlock ∧ some k_ ≠ (s_.2 : Value).ownBlock) (.slice Ao71 t318.length co71) t318) ∧ (Kd.R k26 26 w' w.heap.size (fun k_ => some k_ ≠ (.slice Ao86 t329.length co86 : Value).ownBlock ∧ k_ ≠ gb290 ∧ k_ ≠ gb297 ∧ k_ ≠ gb333) (.slice Ao17 t294.length co17) t294) ∧ (Kd.R k26 26 w' w.heap.size (fun k_ => some k_ ≠ (.slice Ao17 t294.length co17 : Value).ownBlock ∧ k_ ≠ gb290 ∧ k_ ≠ gb297 ∧ k_ ≠ gb333) (.slice Ao86 t329.length co86) t329) ∧ (w'.heap[gb290]? = some (.cells #[.int .i64 a0_0, .int .i64 a0_1, .string a0_2, .slice A0_3 l0_3.length c0_3] 26 (0, 0))) ∧ (w'.heap[gb297]? = some (.cells #[.int .i64 t291, .int .i64 t292, .string t293, .slice Ao17 t294.length co17] 26 (0, 0))) ∧ (w'.heap[gb301]? = some (.cells #[.int .i64 ji8, .int .i64 ji9] 28 (0, 0))) ∧ (w'.heap[gb325]? = some (.cells #[.int .i64 t322, .int .i64 t323] 28 (0, 0))) ∧ (w'.heap[gb333]? = some (.cells #[.int .i64 t326, .int .i64 t327, .string t328, .slice Ao86 t329.length co86] 26 (0, 0))) ∧ (Below w.heap.size w w')) ?_ ?_; rotate_left
                ·intro hJ1_5; refine join_ (σ := Value × Nat) 9 #[true, true, true, false, true, false, false, false, false, false, false, true, false, false] (fun s_ => [(154, s_.1), (26, .pointer (some ⟨s_.2, 0, none⟩))]) (fun s_ w' => (w'.cell? ⟨gb297, 0, none⟩ = some (.int .i64 t291) ∧ w'.cell? ⟨gb297, 1, none⟩ = some (.int .i64 t292) ∧ w'.cell? ⟨gb297, 2, none⟩ = some (.string t293) ∧ w'.cell? ⟨gb297, 3, none⟩ = some (.slice Ao17 t294.length co17)) ∧ (Kd.R (Kd.int .i64) 3 w' w.heap.size (fun k_ => some k_ ≠ (.slice Ao71 t318.length co71 : Value).ownBlock) s_.1 y334) ∧ (Kd.R (Kd.int .i64) 3 w' w.heap.size (fun k_ => some k_ ≠ (s_.1 : Value).ownBlock) (.slice Ao71 t318.length co71) t318) ∧ (Kd.R k26 26 w' w.heap.size (fun k_ => some k_ ≠ (.slice Ao86 t329.length co86 : Value).ownBlock ∧ k_ ≠ gb290 ∧ k_ ≠ gb297 ∧ k_ ≠ gb333) (.slice Ao17 t294.length co17) t294) ∧ (Kd.R k26 26 w' w.heap.size (fun k_ => some k_ ≠ (.slice Ao17 t294.length co17 : Value).ownBlock ∧ k_ ≠ gb290 ∧ k_ ≠ gb297 ∧ k_ ≠ gb333) (.slice Ao86 t329.length co86) t329) ∧ (w'.heap[gb290]? = some (.cells #[.int .i64 a0_0, .int .i64 a0_1, .string a0_2, .slice A0_3 l0_3.length c0_3] 26 (0, 0))) ∧ (w'.heap[gb297]? = some (.cells #[.int .i64 t291, .int .i64 t292, .string t293, .slice Ao17 t294.length co17] 26 (0, 0))) ∧ (w'.heap[gb301]? = some (.cells #[.int .i64 ji8, .int .i64 ji9] 28 (0, 0))) ∧ (w'.heap[gb325]? = some (.cells #[.int .i64 t322, .int .i64 t323] 28 (0, 0))) ∧ (w'.heap[gb333]? = some (.cells #[.int .i64 t326, .int .i64 t327, .string t328, .slice Ao86 t329.length co86] 26 (0, 0))) ∧ (w'.heap[s_.2]? = some (.cells #[.int .i64 0, .int .i64 0] 28 (0, 0))) ∧ (w.heap.size ≤ s_.2) ∧ (w.heap.size ≤ s_.2) ∧ (gb290 ≠ s_.2) ∧ (s_.2 ≠ gb290) ∧ (gb297 ≠ s_.2) ∧ (s_.2 ≠ gb297) ∧ (gb301 ≠ s_.2) ∧ (s_.2 ≠ gb301) ∧ (gb325 ≠ s_.2) ∧ (s_.2 ≠ gb325) ∧ (gb333 ≠ s_.2) ∧ (s_.2 ≠ gb333) ∧ (Below w.heap.size w w')) ?_ ?_; rotate_left
                 ·intro hJ1_11; refine join_ (σ := Value × Nat) 9 #[true, false, true, false, true, true, false, false, false, false, false, true, false, false] (fun s_ => [(158, s_.1), (26, .pointer (some ⟨s_.2, 0, none⟩))]) (fun s_ w' => (w'.cell? ⟨gb297, 0, none⟩ = some (.int .i64 t291) ∧ w'.cell? ⟨gb297, 1, none⟩ = some (.int .i64 t292) ∧ w'.cell? ⟨gb297, 2, none⟩ = some (.string t293) ∧ w'.cell? ⟨gb297, 3, none⟩ = some (.slice Ao17 t294.length co17)) ∧ (Kd.R (Kd.int .i64) 3 w' w.heap.size (fun k_ => some k_ ≠ (.slice Ao71 t318.length co71 : Value).ownBlock) s_.1 y340) ∧ (Kd.R (Kd.int .i64) 3 w' w.heap.size (fun k_ => some k_ ≠ (s_.1 : Value).ownBlock) (.slice Ao71 t318.length co71) t318) ∧ (Kd.R k26 26 w' w.heap.size (fun k_ => some k_ ≠ (.slice Ao86 t329.length co86 : Value).ownBlock ∧ k_ ≠ gb290 ∧ k_ ≠ gb297 ∧ k_ ≠ gb333) (.slice Ao17 t294.length co17) t294) ∧ (Kd.R k26 26 w' w.heap.size (fun k_ => some k_ ≠ (.slice Ao17 t294.length co17 : Value).ownBlock ∧ k_ ≠ gb290 ∧ k_ ≠ gb297 ∧ k_ ≠ gb333) (.slice Ao86 t329.length co86) t329) ∧ (w'.heap[gb290]? = some (.cells #[.int .i64 a0_0, .int .i64 a0_1, .string a0_2, .slice A0_3 l0_3.length c0_3] 26 (0, 0))) ∧ (w'.heap[gb297]? = some (.cells #[.int .i64 t291, .int .i64 t292, .string t293, .slice Ao17 t294.length co17] 26 (0, 0))) ∧ (w'.heap[gb301]? = some (.cells #[.int .i64 ji8, .int .i64 ji9] 28 (0, 0))) ∧ (w'.heap[gb325]? = some (.cells #[.int .i64 t322, .int .i64 t323] 28 (0, 0))) ∧ (w'.heap[gb333]? = some (.cells #[.int .i64 t326, .int .i64 t327, .string t328, .slice Ao86 t329.length co86] 26 (0, 0))) ∧ (w'.heap[s_.2]? = some (.cells #[.int .i64 0, .int .i64 0] 28 (0, 0))) ∧ (w.heap.size ≤ s_.2) ∧ (w.heap.size ≤ s_.2) ∧ (gb290 ≠ s_.2) ∧ (s_.2 ≠ gb290) ∧ (gb297 ≠ s_.2) ∧ (s_.2 ≠ gb297) ∧ (gb301 ≠ s_.2) ∧ (s_.2 ≠ gb301) ∧ (gb325 ≠ s_.2) ∧ (s_.2 ≠ gb325) ∧ (gb333 ≠ s_.2) ∧ (s_.2 ≠ gb333) ∧ (Below w.heap.size w w')) ?_ ?_; rotate_left
                  ·intro hJ5_11; refine join_ (σ := Value) 10 #[true, true, true, false, true, false, false, false, false, false, false, false, false, false] (fun s_ => [(154, s_)]) (fun s_ w' => (w'.cell? ⟨gb297, 0, none⟩ = some (.int .i64 t291) ∧ w'.cell? ⟨gb297, 1, none⟩ = some (.int .i64 t292) ∧ w'.cell? ⟨gb297, 2, none⟩ = some (.string t293) ∧ w'.cell? ⟨gb297, 3, none⟩ = some (.slice Ao17 t294.length co17)) ∧ (Kd.R (Kd.int .i64) 3 w' w.heap.size (fun k_ => some k_ ≠ (.slice Ao71 t318.length co71 : Value).ownBlock) s_ y334) ∧ (Kd.R (Kd.int .i64) 3 w' w.heap.size (fun k_ => some k_ ≠ (s_ : Value).ownBlock) (.slice Ao71 t318.length co71) t318) ∧ (Kd.R k26 26 w' w.heap.size (fun k_ => some k_ ≠ (.slice Ao86 t329.length co86 : Value).ownBlock ∧ k_ ≠ gb290 ∧ k_ ≠ gb297 ∧ k_ ≠ gb333) (.slice Ao17 t294.length co17) t294) ∧ (Kd.R k26 26 w' w.heap.size (fun k_ => some k_ ≠ (.slice Ao17 t294.length co17 : Value).ownBlock ∧ k_ ≠ gb290 ∧ k_ ≠ gb297 ∧ k_ ≠ gb333) (.slice Ao86 t329.length co86) t329) ∧ (w'.heap[gb290]? = some (.cells #[.int .i64 a0_0, .int .i64 a0_1, .string a0_2, .slice A0_3 l0_3.length c0_3] 26 (0, 0))) ∧ (w'.heap[gb297]? = some (.cells #[.int .i64 t291, .int .i64 t292, .string t293, .slice Ao17 t294.length co17] 26 (0, 0))) ∧ (w'.heap[gb301]? = some (.cells #[.int .i64 ji8, .int .i64 ji9] 28 (0, 0))) ∧ (w'.heap[gb325]? = some (.cells #[.int .i64 t322, .int .i64 t323] 28 (0, 0))) ∧ (w'.heap[gb333]? = some (.cells #[.int .i64 t326, .int .i64 t327, .string t328, .slice Ao86 t329.length co86] 26 (0, 0))) ∧ (Below w.heap.size w w')) ?_ ?_; rotate_left
                   ·intro hJ1; refine join_ (σ := Value) 10 #[true, false, true, false, true, true, false, false, false, false, false, false, false, false] (fun s_ => [(158, s_)]) (fun s_ w' => (w'.cell? ⟨gb297, 0, none⟩ = some (.int .i64 t291) ∧ w'.cell? ⟨gb297, 1, none⟩ = some (.int .i64 t292) ∧ w'.cell? ⟨gb297, 2, none⟩ = some (.string t293) ∧ w'.cell? ⟨gb297, 3, none⟩ = some (.slice Ao17 t294.length co17)) ∧ (Kd.R (Kd.int .i64) 3 w' w.heap.size (fun k_ => some k_ ≠ (.slice Ao71 t318.length co71 : Value).ownBlock) s_ y340) ∧ (Kd.R (Kd.int .i64) 3 w' w.heap.size (fun k_ => some k_ ≠ (s_ : Value).ownBlock) (.slice Ao71 t318.length co71) t318) ∧ (Kd.R k26 26 w' w.heap.size (fun k_ => some k_ ≠ (.slice Ao86 t329.length co86 : Value).ownBlock ∧ k_ ≠ gb290 ∧ k_ ≠ gb297 ∧ k_ ≠ gb333) (.slice Ao17 t294.length co17) t294) ∧ (Kd.R k26 26 w' w.heap.size (fun k_ => some k_ ≠ (.slice Ao17 t294.length co17 : Value).ownBlock ∧ k_ ≠ gb290 ∧ k_ ≠ gb297 ∧ k_ ≠ gb333) (.slice Ao86 t329.length co86) t329) ∧ (w'.heap[gb290]? = some (.cells #[.int .i64 a0_0, .int .i64 a0_1, .string a0_2, .slice A0_3 l0_3.length c0_3] 26 (0, 0))) ∧ (w'.heap[gb297]? = some (.cells #[.int .i64 t291, .int .i64 t292, .string t293, .slice Ao17 t294.length co17] 26 (0, 0))) ∧ (w'.heap[gb301]? = some (.cells #[.int .i64 ji8, .int .i64 ji9] 28 (0, 0))) ∧ (w'.heap[gb325]? = some (.cells #[.int .i64 t322, .int .i64 t323] 28 (0, 0))) ∧ (w'.heap[gb333]? = some (.cells #[.int .i64 t326, .int .i64 t327, .string t328, .slice Ao86 t329.length co86] 26 (0, 0))) ∧ (Below w.heap.size w w')) ?_ ?_; rotate_left
                    ·intro hJ5; refine join_ (σ := Nat) 10 #[true, false, true, false, true, false, false, false, false, false, false, true, false, false] (fun s_ => [(26, .pointer (some ⟨s_, 0, none⟩))]) (fun s_ w' => (w'.cell? ⟨gb297, 0, none⟩ = some (.int .i64 t291) ∧ w'.cell? ⟨gb297, 1, none⟩ = some (.int .i64 t292) ∧ w'.cell? ⟨gb297, 2, none⟩ = some (.string t293) ∧ w'.cell? ⟨gb297, 3, none⟩ = some (.slice Ao17 t294.length co17)) ∧ (Kd.R (Kd.int .i64) 3 w' w.heap.size (fun _ => True) (.slice Ao71 t318.length co71) t318) ∧ (Kd.R k26 26 w' w.heap.size (fun k_ => some k_ ≠ (.slice Ao86 t329.length co86 : Value).ownBlock ∧ k_ ≠ gb290 ∧ k_ ≠ gb297 ∧ k_ ≠ gb333) (.slice Ao17 t294.length co17) t294) ∧ (Kd.R k26 26 w' w.heap.size (fun k_ => some k_ ≠ (.slice Ao17 t294.length co17 : Value).ownBlock ∧ k_ ≠ gb290 ∧ k_ ≠ gb297 ∧ k_ ≠ gb333) (.slice Ao86 t329.length co86) t329) ∧ (w'.heap[gb290]? = some (.cells #[.int .i64 a0_0, .int .i64 a0_1, .string a0_2, .slice A0_3 l0_3.length c0_3] 26 (0, 0))) ∧ (w'.heap[gb297]? = some (.cells #[.int .i64 t291, .int .i64 t292, .string t293, .slice Ao17 t294.length co17] 26 (0, 0))) ∧ (w'.heap[gb301]? = some (.cells #[.int .i64 ji8, .int .i64 ji9] 28 (0, 0))) ∧ (w'.heap[gb325]? = some (.cells #[.int .i64 t322, .int .i64 t323] 28 (0, 0))) ∧ (w'.heap[gb333]? = some (.cells #[.int .i64 t326, .int .i64 t327, .string t328, .slice Ao86 t329.length co86] 26 (0, 0))) ∧ (w'.heap[s_]? = some (.cells #[.int .i64 0, .int .i64 0] 28 (0, 0))) ∧ (w.heap.size ≤ s_) ∧ (w.heap.size ≤ s_) ∧ (gb290 ≠ s_) ∧ (s_ ≠ gb290) ∧ (gb297 ≠ s_) ∧ (s_ ≠ gb297) ∧ (gb301 ≠ s_) ∧ (s_ ≠ gb301) ∧ (gb325 ≠ s_) ∧ (s_ ≠ gb325) ∧ (gb333 ≠ s_) ∧ (s_ ≠ gb333) ∧ (Below w.heap.size w w')) ?_ ?_; rotate_left
                     ·intro hJ11; refine three_ (i := 1) (j := 5) (k := 11) (Ni := some 154) (Nj := some 158) (Nk := some 26) #[true, true, true, false, true, false, false, false, false, false, false, false, false, false] #[true, false, true, false, true, true, false, false, false, false, false, false, false, false] #[true, false, true, false, true, false, false, false, false, false, false, true, false, false] rfl rfl rfl rfl rfl rfl (three_of HT_.out (by kernel_rfl)) (by decide) (by decide) (by decide) (fun K hK => ?_) (fun K hK => ?_) (fun K hK => ?_)
                      ·skip
                       refine Kd.R_lit_step (Kd.int .i64) _ 3 ?hg (N := 154) ?hd (xs := ([] : List Int)) (inner := []) (ok := fun _ => True) (okp := fun _ => True) ?hr ?hp (fun _ hk => hk) trivial (Below.refl _ _) (Nat.le_refl _) (by simp) ?_; (case hd => rfl); (case hg => rfl); (case hr => first | (go_simp; done) | (go_simp; rfl)); (case hp => exact (Reps.none _ _)); intro v335 w102 ho103 hb hg_ hnew_; clear hg_ hnew_
                       (first | rw [← Ny334.out] at ho103 | (simp only [Int.reduceToNat] at ho103; rw [← Ny334.out] at ho103))
                       replace HO_298003 := (zRb HO_298003 hb)
                       replace HO_334003 := (zRb HO_334003 hb)
                       have HO336 := Aside0.mk (Kd.R_lower (Kd.R_new' ho103 (Kd.R_lt (zR HO_19))) (below_size zb)); replace HO_19 := Aside0.mk (Kd.R_elder' (zR HO_19) (Kd.R_base ho103) hb)
                       replace BK290 := (zK BK290 hb)
                       replace BK297 := (zK BK297 hb)
                       replace BK301 := (zK BK301 hb)
                       replace BK325 := (zK BK325 hb)
                       replace BK333 := (zK BK333 hb)
                       replace HB := (zB hb)
                       clear hb ho103; refine hK.out _ _ ⟨(blk_cell BK297.out 0).trans rfl, (blk_cell BK297.out 1).trans rfl, (blk_cell BK297.out 2).trans rfl, (blk_cell BK297.out 3).trans rfl⟩ (fun hHeld => ?_); clear hK K; refine norm_ (a' := ?_) ?_ ?_; rotate_left
                       ·show Act.put _ (some 154) _ = _
                        simp only [Act.put, List.setIfInBounds_toArray, List.set_cons_zero, List.set_cons_succ, i64_w, i32_w]; rfl
                       exact zN (hJ1 (v335) _ ⟨hHeld, (zRm HO336 (fun _ hk => hk.2)), (zRm HO_19 (fun _ hk => hk.2)), (zR HO_298003), (zR HO_334003), (Cl.blk BK290.out), (Cl.blk BK297.out), (Cl.blk BK301.out), (Cl.blk BK325.out), (Cl.blk BK333.out), zb⟩)
                      ·skip
                       refine Kd.R_lit_step (Kd.int .i64) _ 3 ?hg (N := 158) ?hd (xs := ([x25_2] : List Int)) (inner := [.int .i64 x25_2]) (ok := fun _ => True) (okp := fun _ => True) ?hr ?hp (fun _ hk => hk) trivial (Below.refl _ _) (Nat.le_refl _) (by simp) ?_; (case hd => rfl); (case hg => rfl); (case hr => first | (go_simp; done) | (go_simp; rfl)); (case hp => exact (Reps.one (show Kd.M (Kd.int .i64) _ _ _ x25_2 [.int .i64 x25_2] from rfl) (Reps.none _ _))); intro v341 w102 ho103 hb hg_ hnew_; clear hg_ hnew_
                       (first | rw [← Ny340.out] at ho103 | (simp only [Int.reduceToNat] at ho103; rw [← Ny340.out] at ho103))
                       replace HO_298003 := (zRb HO_298003 hb)
                       replace HO_334003 := (zRb HO_334003 hb)
                       have HO342 := Aside0.mk (Kd.R_lower (Kd.R_new' ho103 (Kd.R_lt (zR HO_19))) (below_size zb)); replace HO_19 := Aside0.mk (Kd.R_elder' (zR HO_19) (Kd.R_base ho103) hb)
                       replace BK290 := (zK BK290 hb)
                       replace BK297 := (zK BK297 hb)
                       replace BK301 := (zK BK301 hb)
                       replace BK325 := (zK BK325 hb)
                       replace BK333 := (zK BK333 hb)
                       replace HB := (zB hb)
                       clear hb ho103; refine hK.out _ _ ⟨(blk_cell BK297.out 0).trans rfl, (blk_cell BK297.out 1).trans rfl, (blk_cell BK297.out 2).trans rfl, (blk_cell BK297.out 3).trans rfl⟩ (fun hHeld => ?_); clear hK K; refine norm_ (a' := ?_) ?_ ?_; rotate_left
                       ·show Act.put _ (some 158) _ = _
                        simp only [Act.put, List.setIfInBounds_toArray, List.set_cons_zero, List.set_cons_succ, i64_w, i32_w]; rfl
                       exact zN (hJ5 (v341) _ ⟨hHeld, (zRm HO342 (fun _ hk => hk.2)), (zRm HO_19 (fun _ hk => hk.2)), (zR HO_298003), (zR HO_334003), (Cl.blk BK290.out), (Cl.blk BK297.out), (Cl.blk BK301.out), (Cl.blk BK325.out), (Cl.blk BK333.out), zb⟩)
                      ·skip
                       refine box_step ?hg (N := 26) ?hd (cs := #[.int .i64 0, .int .i64 0]) (t := 28) ?hr ?_; (case hd => rfl); (case hg => rfl); (case hr => first | (go_simp; done) | (go_simp; rfl)); intro gb349 hg w102 hbox hb
                       replace HO_19 := (zRb HO_19 hb)
                       replace HO_298003 := (zRb HO_298003 hb)
                       replace HO_334003 := (zRb HO_334003 hb)
                       have BK349 := Aside0.mk (hbox)
                       have GW349 := (zq hg : Aside0 (w.heap.size ≤ gb349))
                       have GE349 := (zq hg : Aside0 (w.heap.size ≤ gb349))
                       replace HB := (zB hb)
                       have NB290_349 := (zl hg BK290 : Aside0 (gb290 ≠ gb349))
                       have NB349_290 := (zl' hg BK290 : Aside0 (gb349 ≠ gb290))
                       replace BK290 := (zK BK290 hb)
                       have NB297_349 := (zl hg BK297 : Aside0 (gb297 ≠ gb349))
                       have NB349_297 := (zl' hg BK297 : Aside0 (gb349 ≠ gb297))
                       replace BK297 := (zK BK297 hb)
                       have NB301_349 := (zl hg BK301 : Aside0 (gb301 ≠ gb349))
                       have NB349_301 := (zl' hg BK301 : Aside0 (gb349 ≠ gb301))
                       replace BK301 := (zK BK301 hb)
                       have NB325_349 := (zl hg BK325 : Aside0 (gb325 ≠ gb349))
                       have NB349_325 := (zl' hg BK325 : Aside0 (gb349 ≠ gb325))
                       replace BK325 := (zK BK325 hb)
                       have NB333_349 := (zl hg BK333 : Aside0 (gb333 ≠ gb349))
                       have NB349_333 := (zl' hg BK333 : Aside0 (gb349 ≠ gb333))
                       replace BK333 := (zK BK333 hb)
                       clear hb hbox hg; refine hK.out _ _ ⟨(blk_cell BK297.out 0).trans rfl, (blk_cell BK297.out 1).trans rfl, (blk_cell BK297.out 2).trans rfl, (blk_cell BK297.out 3).trans rfl⟩ (fun hHeld => ?_); clear hK K; refine norm_ (a' := ?_) ?_ ?_; rotate_left
                       ·show Act.put _ (some 26) _ = _
                        simp only [Act.put, List.setIfInBounds_toArray, List.set_cons_zero, List.set_cons_succ, i64_w, i32_w]; rfl
                       exact zN (hJ11 (gb349) _ ⟨hHeld, (zR HO_19), (zR HO_298003), (zR HO_334003), (Cl.blk BK290.out), (Cl.blk BK297.out), (Cl.blk BK301.out), (Cl.blk BK325.out), (Cl.blk BK333.out), (Cl.blk BK349.out), GW349.out, GE349.out, NB290_349.out, NB349_290.out, NB297_349.out, NB349_297.out, NB301_349.out, NB349_301.out, NB325_349.out, NB349_325.out, NB333_349.out, NB349_333.out, zb⟩)
                     ·skip
                      rintro gb349 w103 ⟨hS_, h0_, h1_, h2_, h3_, h4_, h5_, h6_, h7_, h8_, h9_, h10_, h11_, h12_, h13_, h14_, h15_, h16_, h17_, h18_, h19_, h20_, h21_⟩
                      replace HO_19 := (⟨h0_⟩ : Aside0 (Kd.R (Kd.int .i64) 3 w103 w.heap.size (fun _ => True) (.slice Ao71 t318.length co71) t318))
                      replace HO_298003 := (⟨h1_⟩ : Aside0 (Kd.R k26 26 w103 w.heap.size (fun k_ => some k_ ≠ (.slice Ao86 t329.length co86 : Value).ownBlock ∧ k_ ≠ gb290 ∧ k_ ≠ gb297 ∧ k_ ≠ gb333) (.slice Ao17 t294.length co17) t294))
                      replace HO_334003 := (⟨h2_⟩ : Aside0 (Kd.R k26 26 w103 w.heap.size (fun k_ => some k_ ≠ (.slice Ao17 t294.length co17 : Value).ownBlock ∧ k_ ≠ gb290 ∧ k_ ≠ gb297 ∧ k_ ≠ gb333) (.slice Ao86 t329.length co86) t329))
                      replace BK290 := (⟨h3_⟩ : Aside0 (w103.heap[gb290]? = some (.cells #[.int .i64 a0_0, .int .i64 a0_1, .string a0_2, .slice A0_3 l0_3.length c0_3] 26 (0, 0))))
                      replace BK297 := (⟨h4_⟩ : Aside0 (w103.heap[gb297]? = some (.cells #[.int .i64 t291, .int .i64 t292, .string t293, .slice Ao17 t294.length co17] 26 (0, 0))))
                      replace BK301 := (⟨h5_⟩ : Aside0 (w103.heap[gb301]? = some (.cells #[.int .i64 ji8, .int .i64 ji9] 28 (0, 0))))
                      replace BK325 := (⟨h6_⟩ : Aside0 (w103.heap[gb325]? = some (.cells #[.int .i64 t322, .int .i64 t323] 28 (0, 0))))
                      replace BK333 := (⟨h7_⟩ : Aside0 (w103.heap[gb333]? = some (.cells #[.int .i64 t326, .int .i64 t327, .string t328, .slice Ao86 t329.length co86] 26 (0, 0))))
                      have BK349 := (⟨h8_⟩ : Aside0 (w103.heap[gb349]? = some (.cells #[.int .i64 0, .int .i64 0] 28 (0, 0))))
                      have GW349 := (⟨h9_⟩ : Aside0 (w.heap.size ≤ gb349))
                      have GE349 := (⟨h10_⟩ : Aside0 (w.heap.size ≤ gb349))
                      have NB290_349 := (⟨h11_⟩ : Aside0 (gb290 ≠ gb349))
                      have NB349_290 := (⟨h12_⟩ : Aside0 (gb349 ≠ gb290))
                      have NB297_349 := (⟨h13_⟩ : Aside0 (gb297 ≠ gb349))
                      have NB349_297 := (⟨h14_⟩ : Aside0 (gb349 ≠ gb297))
                      have NB301_349 := (⟨h15_⟩ : Aside0 (gb301 ≠ gb349))
                      have NB349_301 := (⟨h16_⟩ : Aside0 (gb349 ≠ gb301))
                      have NB325_349 := (⟨h17_⟩ : Aside0 (gb325 ≠ gb349))
                      have NB349_325 := (⟨h18_⟩ : Aside0 (gb349 ≠ gb325))
                      have NB333_349 := (⟨h19_⟩ : Aside0 (gb333 ≠ gb349))
                      have NB349_333 := (⟨h20_⟩ : Aside0 (gb349 ≠ gb333))
                      replace HB := (⟨h21_⟩ : Aside0 (Below w.heap.size w w103))
                      clear h0_ h1_ h2_ h3_ h4_ h5_ h6_ h7_ h8_ h9_ h10_ h11_ h12_ h13_ h14_ h15_ h16_ h17_ h18_ h19_ h20_ h21_; have hHeld : w103.cell? ⟨gb297, 0, none⟩ = some (.int .i64 t291) ∧ w103.cell? ⟨gb297, 1, none⟩ = some (.int .i64 t292) ∧ w103.cell? ⟨gb297, 2, none⟩ = some (.string t293) ∧ w103.cell? ⟨gb297, 3, none⟩ = some (.slice Ao17 t294.length co17) := hS_; refine norm_ (a' := ?_) ?_ ?_; rotate_left
                      ·simp only [putAll, Act.put, List.setIfInBounds_toArray, List.set_cons_zero, List.set_cons_succ]; rfl
                      refine two_ (i := 1) (j := 5) (Ni := some 154) (Nj := some 158) #[true, true, true, false, true, false, false, false, false, false, false, true, false, false] #[true, false, true, false, true, true, false, false, false, false, false, true, false, false] rfl rfl rfl rfl (two_of HT_.out (by kernel_rfl)) (by decide) (by decide) (fun K hK => ?_) (fun K hK => ?_)
                      ·skip
                       refine Kd.R_lit_step (Kd.int .i64) _ 3 ?hg (N := 154) ?hd (xs := ([] : List Int)) (inner := []) (ok := fun _ => True) (okp := fun _ => True) ?hr ?hp (fun _ hk => hk) trivial (Below.refl _ _) (Nat.le_refl _) (by simp) ?_; (case hd => rfl); (case hg => rfl); (case hr => first | (go_simp; done) | (go_simp; rfl)); (case hp => exact (Reps.none _ _)); intro v335 w104 ho105 hb hg_ hnew_; clear hg_ hnew_
                       (first | rw [← Ny334.out] at ho105 | (simp only [Int.reduceToNat] at ho105; rw [← Ny334.out] at ho105))
                       replace HO_298003 := (zRb HO_298003 hb)
                       replace HO_334003 := (zRb HO_334003 hb)
                       have HO336 := Aside0.mk (Kd.R_lower (Kd.R_new' ho105 (Kd.R_lt (zR HO_19))) (below_size zb)); replace HO_19 := Aside0.mk (Kd.R_elder' (zR HO_19) (Kd.R_base ho105) hb)
                       replace BK290 := (zK BK290 hb)
                       replace BK297 := (zK BK297 hb)
                       replace BK301 := (zK BK301 hb)
                       replace BK325 := (zK BK325 hb)
                       replace BK333 := (zK BK333 hb)
                       replace BK349 := (zK BK349 hb)
                       replace HB := (zB hb)
                       clear hb ho105; refine hK.out _ _ ⟨(blk_cell BK297.out 0).trans rfl, (blk_cell BK297.out 1).trans rfl, (blk_cell BK297.out 2).trans rfl, (blk_cell BK297.out 3).trans rfl⟩ (fun hHeld => ?_); clear hK K; refine norm_ (a' := ?_) ?_ ?_; rotate_left
                       ·show Act.put _ (some 154) _ = _
                        simp only [Act.put, List.setIfInBounds_toArray, List.set_cons_zero, List.set_cons_succ, i64_w, i32_w]; rfl
                       exact zN (hJ1_11 (v335, gb349) _ ⟨hHeld, (zRm HO336 (fun _ hk => hk.2)), (zRm HO_19 (fun _ hk => hk.2)), (zR HO_298003), (zR HO_334003), (Cl.blk BK290.out), (Cl.blk BK297.out), (Cl.blk BK301.out), (Cl.blk BK325.out), (Cl.blk BK333.out), (Cl.blk BK349.out), GW349.out, GE349.out, NB290_349.out, NB349_290.out, NB297_349.out, NB349_297.out, NB301_349.out, NB349_301.out, NB325_349.out, NB349_325.out, NB333_349.out, NB349_333.out, zb⟩)
                      ·skip
                       refine Kd.R_lit_step (Kd.int .i64) _ 3 ?hg (N := 158) ?hd (xs := ([x25_2] : List Int)) (inner := [.int .i64 x25_2]) (ok := fun _ => True) (okp := fun _ => True) ?hr ?hp (fun _ hk => hk) trivial (Below.refl _ _) (Nat.le_refl _) (by simp) ?_; (case hd => rfl); (case hg => rfl); (case hr => first | (go_simp; done) | (go_simp; rfl)); (case hp => exact (Reps.one (show Kd.M (Kd.int .i64) _ _ _ x25_2 [.int .i64 x25_2] from rfl) (Reps.none _ _))); intro v341 w104 ho105 hb hg_ hnew_; clear hg_ hnew_
                       (first | rw [← Ny340.out] at ho105 | (simp only [Int.reduceToNat] at ho105; rw [← Ny340.out] at ho105))
                       replace HO_298003 := (zRb HO_298003 hb)
                       replace HO_334003 := (zRb HO_334003 hb)
                       have HO342 := Aside0.mk (Kd.R_lower (Kd.R_new' ho105 (Kd.R_lt (zR HO_19))) (below_size zb)); replace HO_19 := Aside0.mk (Kd.R_elder' (zR HO_19) (Kd.R_base ho105) hb)
                       replace BK290 := (zK BK290 hb)
                       replace BK297 := (zK BK297 hb)
                       replace BK301 := (zK BK301 hb)
                       replace BK325 := (zK BK325 hb)
                       replace BK333 := (zK BK333 hb)
                       replace BK349 := (zK BK349 hb)
                       replace HB := (zB hb)
                       clear hb ho105; refine hK.out _ _ ⟨(blk_cell BK297.out 0).trans rfl, (blk_cell BK297.out 1).trans rfl, (blk_cell BK297.out 2).trans rfl, (blk_cell BK297.out 3).trans rfl⟩ (fun hHeld => ?_); clear hK K; refine norm_ (a' := ?_) ?_ ?_; rotate_left
                       ·show Act.put _ (some 158) _ = _
                        simp only [Act.put, List.setIfInBounds_toArray, List.set_cons_zero, List.set_cons_succ, i64_w, i32_w]; rfl
                       exact zN (hJ5_11 (v341, gb349) _ ⟨hHeld, (zRm HO342 (fun _ hk => hk.2)), (zRm HO_19 (fun _ hk => hk.2)), (zR HO_298003), (zR HO_334003), (Cl.blk BK290.out), (Cl.blk BK297.out), (Cl.blk BK301.out), (Cl.blk BK325.out), (Cl.blk BK333.out), (Cl.blk BK349.out), GW349.out, GE349.out, NB290_349.out, NB349_290.out, NB297_349.out, NB349_297.out, NB301_349.out, NB349_301.out, NB325_349.out, NB349_325.out, NB333_349.out, NB349_333.out, zb⟩)
                    ·skip
                     rintro v341 w104 ⟨hS_, h0_, h1_, h2_, h3_, h4_, h5_, h6_, h7_, h8_, h9_⟩
                     have HO342 := (⟨h0_⟩ : Aside0 (Kd.R (Kd.int .i64) 3 w104 w.heap.size (fun k_ => some k_ ≠ (.slice Ao71 t318.length co71 : Value).ownBlock) v341 y340))
                     replace HO_19 := (⟨h1_⟩ : Aside0 (Kd.R (Kd.int .i64) 3 w104 w.heap.size (fun k_ => some k_ ≠ (v341 : Value).ownBlock) (.slice Ao71 t318.length co71) t318))
                     replace HO_298003 := (⟨h2_⟩ : Aside0 (Kd.R k26 26 w104 w.heap.size (fun k_ => some k_ ≠ (.slice Ao86 t329.length co86 : Value).ownBlock ∧ k_ ≠ gb290 ∧ k_ ≠ gb297 ∧ k_ ≠ gb333) (.slice Ao17 t294.length co17) t294))
                     replace HO_334003 := (⟨h3_⟩ : Aside0 (Kd.R k26 26 w104 w.heap.size (fun k_ => some k_ ≠ (.slice Ao17 t294.length co17 : Value).ownBlock ∧ k_ ≠ gb290 ∧ k_ ≠ gb297 ∧ k_ ≠ gb333) (.slice Ao86 t329.length co86) t329))
                     replace BK290 := (⟨h4_⟩ : Aside0 (w104.heap[gb290]? = some (.cells #[.int .i64 a0_0, .int .i64 a0_1, .string a0_2, .slice A0_3 l0_3.length c0_3] 26 (0, 0))))
                     replace BK297 := (⟨h5_⟩ : Aside0 (w104.heap[gb297]? = some (.cells #[.int .i64 t291, .int .i64 t292, .string t293, .slice Ao17 t294.length co17] 26 (0, 0))))
                     replace BK301 := (⟨h6_⟩ : Aside0 (w104.heap[gb301]? = some (.cells #[.int .i64 ji8, .int .i64 ji9] 28 (0, 0))))
                     replace BK325 := (⟨h7_⟩ : Aside0 (w104.heap[gb325]? = some (.cells #[.int .i64 t322, .int .i64 t323] 28 (0, 0))))
                     replace BK333 := (⟨h8_⟩ : Aside0 (w104.heap[gb333]? = some (.cells #[.int .i64 t326, .int .i64 t327, .string t328, .slice Ao86 t329.length co86] 26 (0, 0))))
                     replace HB := (⟨h9_⟩ : Aside0 (Below w.heap.size w w104))
                     clear h0_ h1_ h2_ h3_ h4_ h5_ h6_ h7_ h8_ h9_; have hHeld : w104.cell? ⟨gb297, 0, none⟩ = some (.int .i64 t291) ∧ w104.cell? ⟨gb297, 1, none⟩ = some (.int .i64 t292) ∧ w104.cell? ⟨gb297, 2, none⟩ = some (.string t293) ∧ w104.cell? ⟨gb297, 3, none⟩ = some (.slice Ao17 t294.length co17) := hS_; refine norm_ (a' := ?_) ?_ ?_; rotate_left
                     ·simp only [putAll, Act.put, List.setIfInBounds_toArray, List.set_cons_zero, List.set_cons_succ]; rfl
                     refine two_ (i := 1) (j := 11) (Ni := some 154) (Nj := some 26) #[true, true, true, false, true, true, false, false, false, false, false, false, false, false] #[true, false, true, false, true, true, false, false, false, false, false, true, false, false] rfl rfl rfl rfl (two_of HT_.out (by kernel_rfl)) (by decide) (by decide) (fun K hK => ?_) (fun K hK => ?_)
                     ·skip
                      refine Kd.R_lit_step (Kd.int .i64) _ 3 ?hg (N := 154) ?hd (xs := ([] : List Int)) (inner := []) (ok := fun _ => True) (okp := fun _ => True) ?hr ?hp (fun _ hk => hk) trivial (Below.refl _ _) (Nat.le_refl _) (by simp) ?_; (case hd => rfl); (case hg => rfl); (case hr => first | (go_simp; done) | (go_simp; rfl)); (case hp => exact (Reps.none _ _)); intro v335 w105 ho106 hb hg_ hnew_; clear hg_ hnew_
                      (first | rw [← Ny334.out] at ho106 | (simp only [Int.reduceToNat] at ho106; rw [← Ny334.out] at ho106))
                      replace HO_298003 := (zRb HO_298003 hb)
                      replace HO_334003 := (zRb HO_334003 hb)
                      have HO336 := Aside0.mk (Kd.R_lower (Kd.R_new' (Kd.R_new' ho106 (Kd.R_lt (zR HO_19))) (Kd.R_lt (zR HO342))) (below_size zb)); replace HO_19 := Aside0.mk (Kd.R_elder' (zR HO_19) (Kd.R_base ho106) hb); replace HO342 := Aside0.mk (Kd.R_elder' (zR HO342) (Kd.R_base ho106) hb)
                      replace BK290 := (zK BK290 hb)
                      replace BK297 := (zK BK297 hb)
                      replace BK301 := (zK BK301 hb)
                      replace BK325 := (zK BK325 hb)
                      replace BK333 := (zK BK333 hb)
                      replace HB := (zB hb)
                      clear hb ho106; refine hK.out _ _ ⟨(blk_cell BK297.out 0).trans rfl, (blk_cell BK297.out 1).trans rfl, (blk_cell BK297.out 2).trans rfl, (blk_cell BK297.out 3).trans rfl⟩ (fun hHeld => ?_); clear hK K; refine norm_ (a' := ?_) ?_ ?_; rotate_left
                      ·show Act.put _ (some 154) _ = _
                       simp only [Act.put, List.setIfInBounds_toArray, List.set_cons_zero, List.set_cons_succ, i64_w, i32_w]; rfl
                      exact zN (hJ1_5 (v335, v341) _ ⟨hHeld, (zRm HO336 (fun _ hk => ⟨hk.2, hk.1.2⟩)), (zRm HO342 (fun _ hk => ⟨hk.2, hk.1⟩)), (zRm HO_19 (fun _ hk => ⟨hk.2, hk.1⟩)), (zR HO_298003), (zR HO_334003), (Cl.blk BK290.out), (Cl.blk BK297.out), (Cl.blk BK301.out), (Cl.blk BK325.out), (Cl.blk BK333.out), zb⟩)
                     ·skip
                      refine box_step ?hg (N := 26) ?hd (cs := #[.int .i64 0, .int .i64 0]) (t := 28) ?hr ?_; (case hd => rfl); (case hg => rfl); (case hr => first | (go_simp; done) | (go_simp; rfl)); intro gb349 hg w105 hbox hb
                      replace HO_19 := (zRb HO_19 hb)
                      replace HO_298003 := (zRb HO_298003 hb)
                      replace HO_334003 := (zRb HO_334003 hb)
                      replace HO342 := (zRb HO342 hb)
                      have BK349 := Aside0.mk (hbox)
                      have GW349 := (zq hg : Aside0 (w.heap.size ≤ gb349))
                      have GE349 := (zq hg : Aside0 (w.heap.size ≤ gb349))
                      replace HB := (zB hb)
                      have NB290_349 := (zl hg BK290 : Aside0 (gb290 ≠ gb349))
                      have NB349_290 := (zl' hg BK290 : Aside0 (gb349 ≠ gb290))
                      replace BK290 := (zK BK290 hb)
                      have NB297_349 := (zl hg BK297 : Aside0 (gb297 ≠ gb349))
                      have NB349_297 := (zl' hg BK297 : Aside0 (gb349 ≠ gb297))
                      replace BK297 := (zK BK297 hb)
                      have NB301_349 := (zl hg BK301 : Aside0 (gb301 ≠ gb349))
                      have NB349_301 := (zl' hg BK301 : Aside0 (gb349 ≠ gb301))
                      replace BK301 := (zK BK301 hb)
                      have NB325_349 := (zl hg BK325 : Aside0 (gb325 ≠ gb349))
                      have NB349_325 := (zl' hg BK325 : Aside0 (gb349 ≠ gb325))
                      replace BK325 := (zK BK325 hb)
                      have NB333_349 := (zl hg BK333 : Aside0 (gb333 ≠ gb349))
                      have NB349_333 := (zl' hg BK333 : Aside0 (gb349 ≠ gb333))
                      replace BK333 := (zK BK333 hb)
                      clear hb hbox hg; refine hK.out _ _ ⟨(blk_cell BK297.out 0).trans rfl, (blk_cell BK297.out 1).trans rfl, (blk_cell BK297.out 2).trans rfl, (blk_cell BK297.out 3).trans rfl⟩ (fun hHeld => ?_); clear hK K; refine norm_ (a' := ?_) ?_ ?_; rotate_left
                      ·show Act.put _ (some 26) _ = _
                       simp only [Act.put, List.setIfInBounds_toArray, List.set_cons_zero, List.set_cons_succ, i64_w, i32_w]; rfl
                      exact zN (hJ5_11 (v341, gb349) _ ⟨hHeld, (zR HO342), (zR HO_19), (zR HO_298003), (zR HO_334003), (Cl.blk BK290.out), (Cl.blk BK297.out), (Cl.blk BK301.out), (Cl.blk BK325.out), (Cl.blk BK333.out), (Cl.blk BK349.out), GW349.out, GE349.out, NB290_349.out, NB349_290.out, NB297_349.out, NB349_297.out, NB301_349.out, NB349_301.out, NB325_349.out, NB349_325.out, NB333_349.out, NB349_333.out, zb⟩)
                   ·skip
                    rintro v335 w104 ⟨hS_, h0_, h1_, h2_, h3_, h4_, h5_, h6_, h7_, h8_, h9_⟩
                    have HO336 := (⟨h0_⟩ : Aside0 (Kd.R (Kd.int .i64) 3 w104 w.heap.size (fun k_ => some k_ ≠ (.slice Ao71 t318.length co71 : Value).ownBlock) v335 y334))
                    replace HO_19 := (⟨h1_⟩ : Aside0 (Kd.R (Kd.int .i64) 3 w104 w.heap.size (fun k_ => some k_ ≠ (v335 : Value).ownBlock) (.slice Ao71 t318.length co71) t318))
                    replace HO_298003 := (⟨h2_⟩ : Aside0 (Kd.R k26 26 w104 w.heap.size (fun k_ => some k_ ≠ (.slice Ao86 t329.length co86 : Value).ownBlock ∧ k_ ≠ gb290 ∧ k_ ≠ gb297 ∧ k_ ≠ gb333) (.slice Ao17 t294.length co17) t294))
                    replace HO_334003 := (⟨h3_⟩ : Aside0 (Kd.R k26 26 w104 w.heap.size (fun k_ => some k_ ≠ (.slice Ao17 t294.length co17 : Value).ownBlock ∧ k_ ≠ gb290 ∧ k_ ≠ gb297 ∧ k_ ≠ gb333) (.slice Ao86 t329.length co86) t329))
                    replace BK290 := (⟨h4_⟩ : Aside0 (w104.heap[gb290]? = some (.cells #[.int .i64 a0_0, .int .i64 a0_1, .string a0_2, .slice A0_3 l0_3.length c0_3] 26 (0, 0))))
                    replace BK297 := (⟨h5_⟩ : Aside0 (w104.heap[gb297]? = some (.cells #[.int .i64 t291, .int .i64 t292, .string t293, .slice Ao17 t294.length co17] 26 (0, 0))))
                    replace BK301 := (⟨h6_⟩ : Aside0 (w104.heap[gb301]? = some (.cells #[.int .i64 ji8, .int .i64 ji9] 28 (0, 0))))
                    replace BK325 := (⟨h7_⟩ : Aside0 (w104.heap[gb325]? = some (.cells #[.int .i64 t322, .int .i64 t323] 28 (0, 0))))
                    replace BK333 := (⟨h8_⟩ : Aside0 (w104.heap[gb333]? = some (.cells #[.int .i64 t326, .int .i64 t327, .string t328, .slice Ao86 t329.length co86] 26 (0, 0))))
                    replace HB := (⟨h9_⟩ : Aside0 (Below w.heap.size w w104))
                    clear h0_ h1_ h2_ h3_ h4_ h5_ h6_ h7_ h8_ h9_; have hHeld : w104.cell? ⟨gb297, 0, none⟩ = some (.int .i64 t291) ∧ w104.cell? ⟨gb297, 1, none⟩ = some (.int .i64 t292) ∧ w104.cell? ⟨gb297, 2, none⟩ = some (.string t293) ∧ w104.cell? ⟨gb297, 3, none⟩ = some (.slice Ao17 t294.length co17) := hS_; refine norm_ (a' := ?_) ?_ ?_; rotate_left
                    ·simp only [putAll, Act.put, List.setIfInBounds_toArray, List.set_cons_zero, List.set_cons_succ]; rfl
                    refine three_ (i := 3) (j := 5) (k := 11) (Ni := some 156) (Nj := some 158) (Nk := some 26) #[true, true, true, true, true, false, false, false, false, false, false, false, false, false] #[true, true, true, false, true, true, false, false, false, false, false, false, false, false] #[true, true, true, false, true, false, false, false, false, false, false, true, false, false] rfl rfl rfl rfl rfl rfl (three_of HT_.out (by kernel_rfl)) (by decide) (by decide) (by decide) (fun K hK => ?_) (fun K hK => ?_) (fun K hK => ?_)
                    ·skip
                     refine Kd.R_append_rows_step (Kd.int .i64) (w0 := w) w.heap.size (by rfl) (.tmp 154) (.tmp 155) 30 3 (.int .i64 0) 8 rfl Try.underlying30 info3 rfl (by decide) (by omega) v335 y334 t318 _ _ _ (fun k_ => some k_ ≠ (.slice Ao71 t318.length co71 : Value).ownBlock) (fun _ => False) rfl rfl ?aO ?aR (fun _ _ h => h) (fun _ h => h.elim) ?aF ?aB ?aS ?aL ?_
                     (case aR => exact zE' (Kd.R_reads' HO_19.out).2.2)
                     (case aB => exact zb)
                     (case aF => exact (fun k_ hk => Kd.fresh' (Kd.R_lt (zR HO_19)) k_ hk))
                     (case aO => exact (zR HO336))
                     (case aS => exact (below_size zb))
                     (case aL => have := LMc90.out; omega)
                     intro v338 w105 ho hb hg hat; rw [← Ny337.out] at ho; replace HO_19 := Aside0.mk (Kd.R_after (ok := (fun _ => True)) (zRm HO_19 (fun _ hk => ⟨trivial, hk⟩)) hg hat); replace HO_298003 := Aside0.mk (Kd.R_over' (zR HO_298003) (Kd.R_typed (zR HO336)) (by decide) hg); replace HO_334003 := Aside0.mk (Kd.R_over' (zR HO_334003) (Kd.R_typed (zR HO336)) (by decide) hg)
                     replace BK290 := (blk_grown' BK290 hg (Kd.R_ne HO336.out BK290.out (by decide)))
                     replace BK297 := (blk_grown' BK297 hg (Kd.R_ne HO336.out BK297.out (by decide)))
                     replace BK301 := (blk_grown' BK301 hg (Kd.R_ne HO336.out BK301.out (by decide)))
                     replace BK325 := (blk_grown' BK325 hg (Kd.R_ne HO336.out BK325.out (by decide)))
                     replace BK333 := (blk_grown' BK333 hg (Kd.R_ne HO336.out BK333.out (by decide)))
                     replace HB := Aside0.mk (hb); have HO339 := Aside0.mk (ho); clear HO336 ho hb hg hat; refine hK.out _ _ ⟨(blk_cell BK297.out 0).trans rfl, (blk_cell BK297.out 1).trans rfl, (blk_cell BK297.out 2).trans rfl, (blk_cell BK297.out 3).trans rfl⟩ (fun hHeld => ?_); clear hK K; refine norm_ (a' := ?_) ?_ ?_; rotate_left
                     ·show Act.put _ (some 156) _ = _
                      simp only [Act.put, List.setIfInBounds_toArray, List.set_cons_zero, List.set_cons_succ, i64_w, i32_w]; rfl
                     exact zN (hJ1_3 (v335, v338) _ ⟨hHeld, (zR HO339), (zRm HO_19 (fun _ hk => hk.2)), (zR HO_298003), (zR HO_334003), (Cl.blk BK290.out), (Cl.blk BK297.out), (Cl.blk BK301.out), (Cl.blk BK325.out), (Cl.blk BK333.out), zb⟩)
                    ·skip
                     refine Kd.R_lit_step (Kd.int .i64) _ 3 ?hg (N := 158) ?hd (xs := ([x25_2] : List Int)) (inner := [.int .i64 x25_2]) (ok := fun _ => True) (okp := fun _ => True) ?hr ?hp (fun _ hk => hk) trivial (Below.refl _ _) (Nat.le_refl _) (by simp) ?_; (case hd => rfl); (case hg => rfl); (case hr => first | (go_simp; done) | (go_simp; rfl)); (case hp => exact (Reps.one (show Kd.M (Kd.int .i64) _ _ _ x25_2 [.int .i64 x25_2] from rfl) (Reps.none _ _))); intro v341 w105 ho106 hb hg_ hnew_; clear hg_ hnew_
                     (first | rw [← Ny340.out] at ho106 | (simp only [Int.reduceToNat] at ho106; rw [← Ny340.out] at ho106))
                     replace HO_298003 := (zRb HO_298003 hb)
                     replace HO_334003 := (zRb HO_334003 hb)
                     have HO342 := Aside0.mk (Kd.R_lower (Kd.R_new' (Kd.R_new' ho106 (Kd.R_lt (zR HO_19))) (Kd.R_lt (zR HO336))) (below_size zb)); replace HO_19 := Aside0.mk (Kd.R_elder' (zR HO_19) (Kd.R_base ho106) hb); replace HO336 := Aside0.mk (Kd.R_elder' (zR HO336) (Kd.R_base ho106) hb)
                     replace BK290 := (zK BK290 hb)
                     replace BK297 := (zK BK297 hb)
                     replace BK301 := (zK BK301 hb)
                     replace BK325 := (zK BK325 hb)
                     replace BK333 := (zK BK333 hb)
                     replace HB := (zB hb)
                     clear hb ho106; refine hK.out _ _ ⟨(blk_cell BK297.out 0).trans rfl, (blk_cell BK297.out 1).trans rfl, (blk_cell BK297.out 2).trans rfl, (blk_cell BK297.out 3).trans rfl⟩ (fun hHeld => ?_); clear hK K; refine norm_ (a' := ?_) ?_ ?_; rotate_left
                     ·show Act.put _ (some 158) _ = _
                      simp only [Act.put, List.setIfInBounds_toArray, List.set_cons_zero, List.set_cons_succ, i64_w, i32_w]; rfl
                     exact zN (hJ1_5 (v335, v341) _ ⟨hHeld, (zRm HO336 (fun _ hk => ⟨hk.2, hk.1⟩)), (zRm HO342 (fun _ hk => ⟨hk.2, hk.1.2⟩)), (zR HO_19), (zR HO_298003), (zR HO_334003), (Cl.blk BK290.out), (Cl.blk BK297.out), (Cl.blk BK301.out), (Cl.blk BK325.out), (Cl.blk BK333.out), zb⟩)
                    ·skip
                     refine box_step ?hg (N := 26) ?hd (cs := #[.int .i64 0, .int .i64 0]) (t := 28) ?hr ?_; (case hd => rfl); (case hg => rfl); (case hr => first | (go_simp; done) | (go_simp; rfl)); intro gb349 hg w105 hbox hb
                     replace HO_19 := (zRb HO_19 hb)
                     replace HO_298003 := (zRb HO_298003 hb)
                     replace HO_334003 := (zRb HO_334003 hb)
                     replace HO336 := (zRb HO336 hb)
                     have BK349 := Aside0.mk (hbox)
                     have GW349 := (zq hg : Aside0 (w.heap.size ≤ gb349))
                     have GE349 := (zq hg : Aside0 (w.heap.size ≤ gb349))
                     replace HB := (zB hb)
                     have NB290_349 := (zl hg BK290 : Aside0 (gb290 ≠ gb349))
                     have NB349_290 := (zl' hg BK290 : Aside0 (gb349 ≠ gb290))
                     replace BK290 := (zK BK290 hb)
                     have NB297_349 := (zl hg BK297 : Aside0 (gb297 ≠ gb349))
                     have NB349_297 := (zl' hg BK297 : Aside0 (gb349 ≠ gb297))
                     replace BK297 := (zK BK297 hb)
                     have NB301_349 := (zl hg BK301 : Aside0 (gb301 ≠ gb349))
                     have NB349_301 := (zl' hg BK301 : Aside0 (gb349 ≠ gb301))
                     replace BK301 := (zK BK301 hb)
                     have NB325_349 := (zl hg BK325 : Aside0 (gb325 ≠ gb349))
                     have NB349_325 := (zl' hg BK325 : Aside0 (gb349 ≠ gb325))
                     replace BK325 := (zK BK325 hb)
                     have NB333_349 := (zl hg BK333 : Aside0 (gb333 ≠ gb349))
                     have NB349_333 := (zl' hg BK333 : Aside0 (gb349 ≠ gb333))
                     replace BK333 := (zK BK333 hb)
                     clear hb hbox hg; refine hK.out _ _ ⟨(blk_cell BK297.out 0).trans rfl, (blk_cell BK297.out 1).trans rfl, (blk_cell BK297.out 2).trans rfl, (blk_cell BK297.out 3).trans rfl⟩ (fun hHeld => ?_); clear hK K; refine norm_ (a' := ?_) ?_ ?_; rotate_left
                     ·show Act.put _ (some 26) _ = _
                      simp only [Act.put, List.setIfInBounds_toArray, List.set_cons_zero, List.set_cons_succ, i64_w, i32_w]; rfl
                     exact zN (hJ1_11 (v335, gb349) _ ⟨hHeld, (zR HO336), (zR HO_19), (zR HO_298003), (zR HO_334003), (Cl.blk BK290.out), (Cl.blk BK297.out), (Cl.blk BK301.out), (Cl.blk BK325.out), (Cl.blk BK333.out), (Cl.blk BK349.out), GW349.out, GE349.out, NB290_349.out, NB349_290.out, NB297_349.out, NB349_297.out, NB301_349.out, NB349_301.out, NB325_349.out, NB349_325.out, NB333_349.out, NB349_333.out, zb⟩)
                  ·skip
                   rintro ⟨v341, gb349⟩ w105 ⟨hS_, h0_, h1_, h2_, h3_, h4_, h5_, h6_, h7_, h8_, h9_, h10_, h11_, h12_, h13_, h14_, h15_, h16_, h17_, h18_, h19_, h20_, h21_, h22_⟩
                   have HO342 := (⟨h0_⟩ : Aside0 (Kd.R (Kd.int .i64) 3 w105 w.heap.size (fun k_ => some k_ ≠ (.slice Ao71 t318.length co71 : Value).ownBlock) v341 y340))
                   replace HO_19 := (⟨h1_⟩ : Aside0 (Kd.R (Kd.int .i64) 3 w105 w.heap.size (fun k_ => some k_ ≠ (v341 : Value).ownBlock) (.slice Ao71 t318.length co71) t318))
                   replace HO_298003 := (⟨h2_⟩ : Aside0 (Kd.R k26 26 w105 w.heap.size (fun k_ => some k_ ≠ (.slice Ao86 t329.length co86 : Value).ownBlock ∧ k_ ≠ gb290 ∧ k_ ≠ gb297 ∧ k_ ≠ gb333) (.slice Ao17 t294.length co17) t294))
                   replace HO_334003 := (⟨h3_⟩ : Aside0 (Kd.R k26 26 w105 w.heap.size (fun k_ => some k_ ≠ (.slice Ao17 t294.length co17 : Value).ownBlock ∧ k_ ≠ gb290 ∧ k_ ≠ gb297 ∧ k_ ≠ gb333) (.slice Ao86 t329.length co86) t329))
                   replace BK290 := (⟨h4_⟩ : Aside0 (w105.heap[gb290]? = some (.cells #[.int .i64 a0_0, .int .i64 a0_1, .string a0_2, .slice A0_3 l0_3.length c0_3] 26 (0, 0))))
                   replace BK297 := (⟨h5_⟩ : Aside0 (w105.heap[gb297]? = some (.cells #[.int .i64 t291, .int .i64 t292, .string t293, .slice Ao17 t294.length co17] 26 (0, 0))))
                   replace BK301 := (⟨h6_⟩ : Aside0 (w105.heap[gb301]? = some (.cells #[.int .i64 ji8, .int .i64 ji9] 28 (0, 0))))
                   replace BK325 := (⟨h7_⟩ : Aside0 (w105.heap[gb325]? = some (.cells #[.int .i64 t322, .int .i64 t323] 28 (0, 0))))
                   replace BK333 := (⟨h8_⟩ : Aside0 (w105.heap[gb333]? = some (.cells #[.int .i64 t326, .int .i64 t327, .string t328, .slice Ao86 t329.length co86] 26 (0, 0))))
                   have BK349 := (⟨h9_⟩ : Aside0 (w105.heap[gb349]? = some (.cells #[.int .i64 0, .int .i64 0] 28 (0, 0))))
                   have GW349 := (⟨h10_⟩ : Aside0 (w.heap.size ≤ gb349))
                   have GE349 := (⟨h11_⟩ : Aside0 (w.heap.size ≤ gb349))
                   have NB290_349 := (⟨h12_⟩ : Aside0 (gb290 ≠ gb349))
                   have NB349_290 := (⟨h13_⟩ : Aside0 (gb349 ≠ gb290))
                   have NB297_349 := (⟨h14_⟩ : Aside0 (gb297 ≠ gb349))
                   have NB349_297 := (⟨h15_⟩ : Aside0 (gb349 ≠ gb297))
                   have NB301_349 := (⟨h16_⟩ : Aside0 (gb301 ≠ gb349))
                   have NB349_301 := (⟨h17_⟩ : Aside0 (gb349 ≠ gb301))
                   have NB325_349 := (⟨h18_⟩ : Aside0 (gb325 ≠ gb349))
                   have NB349_325 := (⟨h19_⟩ : Aside0 (gb349 ≠ gb325))
                   have NB333_349 := (⟨h20_⟩ : Aside0 (gb333 ≠ gb349))
                   have NB349_333 := (⟨h21_⟩ : Aside0 (gb349 ≠ gb333))
                   replace HB := (⟨h22_⟩ : Aside0 (Below w.heap.size w w105))
                   clear h0_ h1_ h2_ h3_ h4_ h5_ h6_ h7_ h8_ h9_ h10_ h11_ h12_ h13_ h14_ h15_ h16_ h17_ h18_ h19_ h20_ h21_ h22_; have hHeld : w105.cell? ⟨gb297, 0, none⟩ = some (.int .i64 t291) ∧ w105.cell? ⟨gb297, 1, none⟩ = some (.int .i64 t292) ∧ w105.cell? ⟨gb297, 2, none⟩ = some (.string t293) ∧ w105.cell? ⟨gb297, 3, none⟩ = some (.slice Ao17 t294.length co17) := hS_; refine norm_ (a' := ?_) ?_ ?_; rotate_left
                   ·simp only [putAll, Act.put, List.setIfInBounds_toArray, List.set_cons_zero, List.set_cons_succ]; rfl
                   refine one_ (i := 1) (N := some 154) #[true, true, true, false, true, true, false, false, false, false, false, true, false, false] rfl rfl (one_of HT_.out (by kernel_rfl)) (by decide) (fun K hK => ?_); refine Kd.R_lit_step (Kd.int .i64) _ 3 ?hg (N := 154) ?hd (xs := ([] : List Int)) (inner := []) (ok := fun _ => True) (okp := fun _ => True) ?hr ?hp (fun _ hk => hk) trivial (Below.refl _ _) (Nat.le_refl _) (by simp) ?_; (case hd => rfl); (case hg => rfl); (case hr => first | (go_simp; done) | (go_simp; rfl)); (case hp => exact (Reps.none _ _)); intro v335 w106 ho107 hb hg_ hnew_; clear hg_ hnew_
                   (first | rw [← Ny334.out] at ho107 | (simp only [Int.reduceToNat] at ho107; rw [← Ny334.out] at ho107))
                   replace HO_298003 := (zRb HO_298003 hb)
                   replace HO_334003 := (zRb HO_334003 hb)
                   have HO336 := Aside0.mk (Kd.R_lower (Kd.R_new' (Kd.R_new' ho107 (Kd.R_lt (zR HO_19))) (Kd.R_lt (zR HO342))) (below_size zb)); replace HO_19 := Aside0.mk (Kd.R_elder' (zR HO_19) (Kd.R_base ho107) hb); replace HO342 := Aside0.mk (Kd.R_elder' (zR HO342) (Kd.R_base ho107) hb)
                   replace BK290 := (zK BK290 hb)
                   replace BK297 := (zK BK297 hb)
                   replace BK301 := (zK BK301 hb)
                   replace BK325 := (zK BK325 hb)
                   replace BK333 := (zK BK333 hb)
                   replace BK349 := (zK BK349 hb)
                   replace HB := (zB hb)
                   clear hb ho107; refine hK.out _ _ ⟨(blk_cell BK297.out 0).trans rfl, (blk_cell BK297.out 1).trans rfl, (blk_cell BK297.out 2).trans rfl, (blk_cell BK297.out 3).trans rfl⟩ (fun hHeld => ?_); clear hK K; refine norm_ (a' := ?_) ?_ ?_; rotate_left
                   ·show Act.put _ (some 154) _ = _
                    simp only [Act.put, List.setIfInBounds_toArray, List.set_cons_zero, List.set_cons_succ, i64_w, i32_w]; rfl
                   exact zN (hJ1_5_11 (v335, v341, gb349) _ ⟨hHeld, (zRm HO336 (fun _ hk => ⟨hk.2, hk.1.2⟩)), (zRm HO342 (fun _ hk => ⟨hk.2, hk.1⟩)), (zRm HO_19 (fun _ hk => ⟨hk.2, hk.1⟩)), (zR HO_298003), (zR HO_334003), (Cl.blk BK290.out), (Cl.blk BK297.out), (Cl.blk BK301.out), (Cl.blk BK325.out), (Cl.blk BK333.out), (Cl.blk BK349.out), GW349.out, GE349.out, NB290_349.out, NB349_290.out, NB297_349.out, NB349_297.out, NB301_349.out, NB349_301.out, NB325_349.out, NB349_325.out, NB333_349.out, NB349_333.out, zb⟩)
                 ·skip
                  rintro ⟨v335, gb349⟩ w105 ⟨hS_, h0_, h1_, h2_, h3_, h4_, h5_, h6_, h7_, h8_, h9_, h10_, h11_, h12_, h13_, h14_, h15_, h16_, h17_, h18_, h19_, h20_, h21_, h22_⟩
                  have HO336 := (⟨h0_⟩ : Aside0 (Kd.R (Kd.int .i64) 3 w105 w.heap.size (fun k_ => some k_ ≠ (.slice Ao71 t318.length co71 : Value).ownBlock) v335 y334))
                  replace HO_19 := (⟨h1_⟩ : Aside0 (Kd.R (Kd.int .i64) 3 w105 w.heap.size (fun k_ => some k_ ≠ (v335 : Value).ownBlock) (.slice Ao71 t318.length co71) t318))
                  replace HO_298003 := (⟨h2_⟩ : Aside0 (Kd.R k26 26 w105 w.heap.size (fun k_ => some k_ ≠ (.slice Ao86 t329.length co86 : Value).ownBlock ∧ k_ ≠ gb290 ∧ k_ ≠ gb297 ∧ k_ ≠ gb333) (.slice Ao17 t294.length co17) t294))
                  replace HO_334003 := (⟨h3_⟩ : Aside0 (Kd.R k26 26 w105 w.heap.size (fun k_ => some k_ ≠ (.slice Ao17 t294.length co17 : Value).ownBlock ∧ k_ ≠ gb290 ∧ k_ ≠ gb297 ∧ k_ ≠ gb333) (.slice Ao86 t329.length co86) t329))
                  replace BK290 := (⟨h4_⟩ : Aside0 (w105.heap[gb290]? = some (.cells #[.int .i64 a0_0, .int .i64 a0_1, .string a0_2, .slice A0_3 l0_3.length c0_3] 26 (0, 0))))
                  replace BK297 := (⟨h5_⟩ : Aside0 (w105.heap[gb297]? = some (.cells #[.int .i64 t291, .int .i64 t292, .string t293, .slice Ao17 t294.length co17] 26 (0, 0))))
                  replace BK301 := (⟨h6_⟩ : Aside0 (w105.heap[gb301]? = some (.cells #[.int .i64 ji8, .int .i64 ji9] 28 (0, 0))))
                  replace BK325 := (⟨h7_⟩ : Aside0 (w105.heap[gb325]? = some (.cells #[.int .i64 t322, .int .i64 t323] 28 (0, 0))))
                  replace BK333 := (⟨h8_⟩ : Aside0 (w105.heap[gb333]? = some (.cells #[.int .i64 t326, .int .i64 t327, .string t328, .slice Ao86 t329.length co86] 26 (0, 0))))
                  have BK349 := (⟨h9_⟩ : Aside0 (w105.heap[gb349]? = some (.cells #[.int .i64 0, .int .i64 0] 28 (0, 0))))
                  have GW349 := (⟨h10_⟩ : Aside0 (w.heap.size ≤ gb349))
                  have GE349 := (⟨h11_⟩ : Aside0 (w.heap.size ≤ gb349))
                  have NB290_349 := (⟨h12_⟩ : Aside0 (gb290 ≠ gb349))
                  have NB349_290 := (⟨h13_⟩ : Aside0 (gb349 ≠ gb290))
                  have NB297_349 := (⟨h14_⟩ : Aside0 (gb297 ≠ gb349))
                  have NB349_297 := (⟨h15_⟩ : Aside0 (gb349 ≠ gb297))
                  have NB301_349 := (⟨h16_⟩ : Aside0 (gb301 ≠ gb349))
                  have NB349_301 := (⟨h17_⟩ : Aside0 (gb349 ≠ gb301))
                  have NB325_349 := (⟨h18_⟩ : Aside0 (gb325 ≠ gb349))
                  have NB349_325 := (⟨h19_⟩ : Aside0 (gb349 ≠ gb325))
                  have NB333_349 := (⟨h20_⟩ : Aside0 (gb333 ≠ gb349))
                  have NB349_333 := (⟨h21_⟩ : Aside0 (gb349 ≠ gb333))
                  replace HB := (⟨h22_⟩ : Aside0 (Below w.heap.size w w105))
                  clear h0_ h1_ h2_ h3_ h4_ h5_ h6_ h7_ h8_ h9_ h10_ h11_ h12_ h13_ h14_ h15_ h16_ h17_ h18_ h19_ h20_ h21_ h22_; have hHeld : w105.cell? ⟨gb297, 0, none⟩ = some (.int .i64 t291) ∧ w105.cell? ⟨gb297, 1, none⟩ = some (.int .i64 t292) ∧ w105.cell? ⟨gb297, 2, none⟩ = some (.string t293) ∧ w105.cell? ⟨gb297, 3, none⟩ = some (.slice Ao17 t294.length co17) := hS_; refine norm_ (a' := ?_) ?_ ?_; rotate_left
                  ·simp only [putAll, Act.put, List.setIfInBounds_toArray, List.set_cons_zero, List.set_cons_succ]; rfl
                  refine two_ (i := 3) (j := 5) (Ni := some 156) (Nj := some 158) #[true, true, true, true, true, false, false, false, false, false, false, true, false, false] #[true, true, true, false, true, true, false, false, false, false, false, true, false, false] rfl rfl rfl rfl (two_of HT_.out (by kernel_rfl)) (by decide) (by decide) (fun K hK => ?_) (fun K hK => ?_)
                  ·skip
                   refine Kd.R_append_rows_step (Kd.int .i64) (w0 := w) w.heap.size (by rfl) (.tmp 154) (.tmp 155) 30 3 (.int .i64 0) 8 rfl Try.underlying30 info3 rfl (by decide) (by omega) v335 y334 t318 _ _ _ (fun k_ => some k_ ≠ (.slice Ao71 t318.length co71 : Value).ownBlock) (fun _ => False) rfl rfl ?aO ?aR (fun _ _ h => h) (fun _ h => h.elim) ?aF ?aB ?aS ?aL ?_
                   (case aR => exact zE' (Kd.R_reads' HO_19.out).2.2)
                   (case aB => exact zb)
                   (case aF => exact (fun k_ hk => Kd.fresh' (Kd.R_lt (zR HO_19)) k_ hk))
                   (case aO => exact (zR HO336))
                   (case aS => exact (below_size zb))
                   (case aL => have := LMc90.out; omega)
                   intro v338 w106 ho hb hg hat; rw [← Ny337.out] at ho; replace HO_19 := Aside0.mk (Kd.R_after (ok := (fun _ => True)) (zRm HO_19 (fun _ hk => ⟨trivial, hk⟩)) hg hat); replace HO_298003 := Aside0.mk (Kd.R_over' (zR HO_298003) (Kd.R_typed (zR HO336)) (by decide) hg); replace HO_334003 := Aside0.mk (Kd.R_over' (zR HO_334003) (Kd.R_typed (zR HO336)) (by decide) hg)
                   replace BK290 := (blk_grown' BK290 hg (Kd.R_ne HO336.out BK290.out (by decide)))
                   replace BK297 := (blk_grown' BK297 hg (Kd.R_ne HO336.out BK297.out (by decide)))
                   replace BK301 := (blk_grown' BK301 hg (Kd.R_ne HO336.out BK301.out (by decide)))
                   replace BK325 := (blk_grown' BK325 hg (Kd.R_ne HO336.out BK325.out (by decide)))
                   replace BK333 := (blk_grown' BK333 hg (Kd.R_ne HO336.out BK333.out (by decide)))
                   replace BK349 := (blk_grown' BK349 hg (Kd.R_ne HO336.out BK349.out (by decide)))
                   replace HB := Aside0.mk (hb); have HO339 := Aside0.mk (ho); clear HO336 ho hb hg hat; refine hK.out _ _ ⟨(blk_cell BK297.out 0).trans rfl, (blk_cell BK297.out 1).trans rfl, (blk_cell BK297.out 2).trans rfl, (blk_cell BK297.out 3).trans rfl⟩ (fun hHeld => ?_); clear hK K; refine norm_ (a' := ?_) ?_ ?_; rotate_left
                   ·show Act.put _ (some 156) _ = _
                    simp only [Act.put, List.setIfInBounds_toArray, List.set_cons_zero, List.set_cons_succ, i64_w, i32_w]; rfl
                   exact zN (hJ1_3_11 (v335, v338, gb349) _ ⟨hHeld, (zR HO339), (zRm HO_19 (fun _ hk => hk.2)), (zR HO_298003), (zR HO_334003), (Cl.blk BK290.out), (Cl.blk BK297.out), (Cl.blk BK301.out), (Cl.blk BK325.out), (Cl.blk BK333.out), (Cl.blk BK349.out), GW349.out, GE349.out, NB290_349.out, NB349_290.out, NB297_349.out, NB349_297.out, NB301_349.out, NB349_301.out, NB325_349.out, NB349_325.out, NB333_349.out, NB349_333.out, zb⟩)
                  ·skip
                   refine Kd.R_lit_step (Kd.int .i64) _ 3 ?hg (N := 158) ?hd (xs := ([x25_2] : List Int)) (inner := [.int .i64 x25_2]) (ok := fun _ => True) (okp := fun _ => True) ?hr ?hp (fun _ hk => hk) trivial (Below.refl _ _) (Nat.le_refl _) (by simp) ?_; (case hd => rfl); (case hg => rfl); (case hr => first | (go_simp; done) | (go_simp; rfl)); (case hp => exact (Reps.one (show Kd.M (Kd.int .i64) _ _ _ x25_2 [.int .i64 x25_2] from rfl) (Reps.none _ _))); intro v341 w106 ho107 hb hg_ hnew_; clear hg_ hnew_
                   (first | rw [← Ny340.out] at ho107 | (simp only [Int.reduceToNat] at ho107; rw [← Ny340.out] at ho107))
                   replace HO_298003 := (zRb HO_298003 hb)
                   replace HO_334003 := (zRb HO_334003 hb)
                   have HO342 := Aside0.mk (Kd.R_lower (Kd.R_new' (Kd.R_new' ho107 (Kd.R_lt (zR HO_19))) (Kd.R_lt (zR HO336))) (below_size zb)); replace HO_19 := Aside0.mk (Kd.R_elder' (zR HO_19) (Kd.R_base ho107) hb); replace HO336 := Aside0.mk (Kd.R_elder' (zR HO336) (Kd.R_base ho107) hb)
                   replace BK290 := (zK BK290 hb)
                   replace BK297 := (zK BK297 hb)
                   replace BK301 := (zK BK301 hb)
                   replace BK325 := (zK BK325 hb)
                   replace BK333 := (zK BK333 hb)
                   replace BK349 := (zK BK349 hb)
                   replace HB := (zB hb)
                   clear hb ho107; refine hK.out _ _ ⟨(blk_cell BK297.out 0).trans rfl, (blk_cell BK297.out 1).trans rfl, (blk_cell BK297.out 2).trans rfl, (blk_cell BK297.out 3).trans rfl⟩ (fun hHeld => ?_); clear hK K; refine norm_ (a' := ?_) ?_ ?_; rotate_left
                   ·show Act.put _ (some 158) _ = _
                    simp only [Act.put, List.setIfInBounds_toArray, List.set_cons_zero, List.set_cons_succ, i64_w, i32_w]; rfl
                   exact zN (hJ1_5_11 (v335, v341, gb349) _ ⟨hHeld, (zRm HO336 (fun _ hk => ⟨hk.2, hk.1⟩)), (zRm HO342 (fun _ hk => ⟨hk.2, hk.1.2⟩)), (zR HO_19), (zR HO_298003), (zR HO_334003), (Cl.blk BK290.out), (Cl.blk BK297.out), (Cl.blk BK301.out), (Cl.blk BK325.out), (Cl.blk BK333.out), (Cl.blk BK349.out), GW349.out, GE349.out, NB290_349.out, NB349_290.out, NB297_349.out, NB349_297.out, NB301_349.out, NB349_301.out, NB325_349.out, NB349_325.out, NB333_349.out, NB349_333.out, zb⟩)
                ·skip
                 rintro ⟨v335, v341⟩ w106 ⟨hS_, h0_, h1_, h2_, h3_, h4_, h5_, h6_, h7_, h8_, h9_, h10_⟩
                 have HO336 := (⟨h0_⟩ : Aside0 (Kd.R (Kd.int .i64) 3 w106 w.heap.size (fun k_ => some k_ ≠ (v341 : Value).ownBlock ∧ some k_ ≠ (.slice Ao71 t318.length co71 : Value).ownBlock) v335 y334))
                 have HO342 := (⟨h1_⟩ : Aside0 (Kd.R (Kd.int .i64) 3 w106 w.heap.size (fun k_ => some k_ ≠ (v335 : Value).ownBlock ∧ some k_ ≠ (.slice Ao71 t318.length co71 : Value).ownBlock) v341 y340))
                 replace HO_19 := (⟨h2_⟩ : Aside0 (Kd.R (Kd.int .i64) 3 w106 w.heap.size (fun k_ => some k_ ≠ (v335 : Value).ownBlock ∧ some k_ ≠ (v341 : Value).ownBlock) (.slice Ao71 t318.length co71) t318))
                 replace HO_298003 := (⟨h3_⟩ : Aside0 (Kd.R k26 26 w106 w.heap.size (fun k_ => some k_ ≠ (.slice Ao86 t329.length co86 : Value).ownBlock ∧ k_ ≠ gb290 ∧ k_ ≠ gb297 ∧ k_ ≠ gb333) (.slice Ao17 t294.length co17) t294))
                 replace HO_334003 := (⟨h4_⟩ : Aside0 (Kd.R k26 26 w106 w.heap.size (fun k_ => some k_ ≠ (.slice Ao17 t294.length co17 : Value).ownBlock ∧ k_ ≠ gb290 ∧ k_ ≠ gb297 ∧ k_ ≠ gb333) (.slice Ao86 t329.length co86) t329))
                 replace BK290 := (⟨h5_⟩ : Aside0 (w106.heap[gb290]? = some (.cells #[.int .i64 a0_0, .int .i64 a0_1, .string a0_2, .slice A0_3 l0_3.length c0_3] 26 (0, 0))))
                 replace BK297 := (⟨h6_⟩ : Aside0 (w106.heap[gb297]? = some (.cells #[.int .i64 t291, .int .i64 t292, .string t293, .slice Ao17 t294.length co17] 26 (0, 0))))
                 replace BK301 := (⟨h7_⟩ : Aside0 (w106.heap[gb301]? = some (.cells #[.int .i64 ji8, .int .i64 ji9] 28 (0, 0))))
                 replace BK325 := (⟨h8_⟩ : Aside0 (w106.heap[gb325]? = some (.cells #[.int .i64 t322, .int .i64 t323] 28 (0, 0))))
                 replace BK333 := (⟨h9_⟩ : Aside0 (w106.heap[gb333]? = some (.cells #[.int .i64 t326, .int .i64 t327, .string t328, .slice Ao86 t329.length co86] 26 (0, 0))))
                 replace HB := (⟨h10_⟩ : Aside0 (Below w.heap.size w w106))
                 clear h0_ h1_ h2_ h3_ h4_ h5_ h6_ h7_ h8_ h9_ h10_; have hHeld : w106.cell? ⟨gb297, 0, none⟩ = some (.int .i64 t291) ∧ w106.cell? ⟨gb297, 1, none⟩ = some (.int .i64 t292) ∧ w106.cell? ⟨gb297, 2, none⟩ = some (.string t293) ∧ w106.cell? ⟨gb297, 3, none⟩ = some (.slice Ao17 t294.length co17) := hS_; refine norm_ (a' := ?_) ?_ ?_; rotate_left
                 ·simp only [putAll, Act.put, List.setIfInBounds_toArray, List.set_cons_zero, List.set_cons_succ]; rfl
                 refine two_ (i := 3) (j := 11) (Ni := some 156) (Nj := some 26) #[true, true, true, true, true, true, false, false, false, false, false, false, false, false] #[true, true, true, false, true, true, false, false, false, false, false, true, false, false] rfl rfl rfl rfl (two_of HT_.out (by kernel_rfl)) (by decide) (by decide) (fun K hK => ?_) (fun K hK => ?_)
                 ·skip
                  refine Kd.R_append_rows_step (Kd.int .i64) (w0 := w) w.heap.size (by rfl) (.tmp 154) (.tmp 155) 30 3 (.int .i64 0) 8 rfl Try.underlying30 info3 rfl (by decide) (by omega) v335 y334 t318 _ _ _ (fun k_ => some k_ ≠ (.slice Ao71 t318.length co71 : Value).ownBlock ∧ some k_ ≠ (v341 : Value).ownBlock) (fun _ => False) rfl rfl ?aO ?aR (fun _ _ h => h) (fun _ h => h.elim) ?aF ?aB ?aS ?aL ?_
                  (case aR => exact zE' (Kd.R_reads' HO_19.out).2.2)
                  (case aB => exact zb)
                  (case aF => exact (fun k_ hk => ⟨Kd.fresh' (Kd.R_lt (zR HO_19)) k_ hk, Kd.fresh' (Kd.R_lt (zR HO342)) k_ hk⟩))
                  (case aO => exact (zRm HO336 (fun _ hk => ⟨hk.2, hk.1⟩)))
                  (case aS => exact (below_size zb))
                  (case aL => have := LMc90.out; omega)
                  intro v338 w107 ho hb hg hat; rw [← Ny337.out] at ho; replace HO_19 := Aside0.mk (Kd.R_after (ok := (fun k_ => some k_ ≠ (v341 : Value).ownBlock)) (zRm HO_19 (fun _ hk => ⟨hk.2, hk.1⟩)) hg hat); replace HO_298003 := Aside0.mk (Kd.R_over' (zR HO_298003) (Kd.R_typed (zR HO336)) (by decide) hg); replace HO_334003 := Aside0.mk (Kd.R_over' (zR HO_334003) (Kd.R_typed (zR HO336)) (by decide) hg)
                  replace BK290 := (blk_grown' BK290 hg (Kd.R_ne HO336.out BK290.out (by decide)))
                  replace BK297 := (blk_grown' BK297 hg (Kd.R_ne HO336.out BK297.out (by decide)))
                  replace BK301 := (blk_grown' BK301 hg (Kd.R_ne HO336.out BK301.out (by decide)))
                  replace BK325 := (blk_grown' BK325 hg (Kd.R_ne HO336.out BK325.out (by decide)))
                  replace BK333 := (blk_grown' BK333 hg (Kd.R_ne HO336.out BK333.out (by decide)))
                  replace HO342 := Aside0.mk (Kd.R_after (ok := (fun k_ => some k_ ≠ (.slice Ao71 t318.length co71 : Value).ownBlock)) (zRm HO342 (fun _ hk => ⟨hk.2, hk.1⟩)) hg hat); replace HB := Aside0.mk (hb); have HO339 := Aside0.mk (ho); clear HO336 ho hb hg hat; refine hK.out _ _ ⟨(blk_cell BK297.out 0).trans rfl, (blk_cell BK297.out 1).trans rfl, (blk_cell BK297.out 2).trans rfl, (blk_cell BK297.out 3).trans rfl⟩ (fun hHeld => ?_); clear hK K; refine norm_ (a' := ?_) ?_ ?_; rotate_left
                  ·show Act.put _ (some 156) _ = _
                   simp only [Act.put, List.setIfInBounds_toArray, List.set_cons_zero, List.set_cons_succ, i64_w, i32_w]; rfl
                  exact zN (hJ1_3_5 (v335, v338, v341) _ ⟨hHeld, (zRm HO339 (fun _ hk => ⟨hk.2, hk.1⟩)), (zRm HO342 (fun _ hk => ⟨hk.2, hk.1⟩)), (zRm HO_19 (fun _ hk => ⟨hk.2, hk.1⟩)), (zR HO_298003), (zR HO_334003), (Cl.blk BK290.out), (Cl.blk BK297.out), (Cl.blk BK301.out), (Cl.blk BK325.out), (Cl.blk BK333.out), zb⟩)
                 ·skip
                  refine box_step ?hg (N := 26) ?hd (cs := #[.int .i64 0, .int .i64 0]) (t := 28) ?hr ?_; (case hd => rfl); (case hg => rfl); (case hr => first | (go_simp; done) | (go_simp; rfl)); intro gb349 hg w107 hbox hb
                  replace HO_19 := (zRb HO_19 hb)
                  replace HO_298003 := (zRb HO_298003 hb)
                  replace HO_334003 := (zRb HO_334003 hb)
                  replace HO336 := (zRb HO336 hb)
                  replace HO342 := (zRb HO342 hb)
                  have BK349 := Aside0.mk (hbox)
                  have GW349 := (zq hg : Aside0 (w.heap.size ≤ gb349))
                  have GE349 := (zq hg : Aside0 (w.heap.size ≤ gb349))
                  replace HB := (zB hb)
                  have NB290_349 := (zl hg BK290 : Aside0 (gb290 ≠ gb349))
                  have NB349_290 := (zl' hg BK290 : Aside0 (gb349 ≠ gb290))
                  replace BK290 := (zK BK290 hb)
                  have NB297_349 := (zl hg BK297 : Aside0 (gb297 ≠ gb349))
                  have NB349_297 := (zl' hg BK297 : Aside0 (gb349 ≠ gb297))
                  replace BK297 := (zK BK297 hb)
                  have NB301_349 := (zl hg BK301 : Aside0 (gb301 ≠ gb349))
                  have NB349_301 := (zl' hg BK301 : Aside0 (gb349 ≠ gb301))
                  replace BK301 := (zK BK301 hb)
                  have NB325_349 := (zl hg BK325 : Aside0 (gb325 ≠ gb349))
                  have NB349_325 := (zl' hg BK325 : Aside0 (gb349 ≠ gb325))
                  replace BK325 := (zK BK325 hb)
                  have NB333_349 := (zl hg BK333 : Aside0 (gb333 ≠ gb349))
                  have NB349_333 := (zl' hg BK333 : Aside0 (gb349 ≠ gb333))
                  replace BK333 := (zK BK333 hb)
                  clear hb hbox hg; refine hK.out _ _ ⟨(blk_cell BK297.out 0).trans rfl, (blk_cell BK297.out 1).trans rfl, (blk_cell BK297.out 2).trans rfl, (blk_cell BK297.out 3).trans rfl⟩ (fun hHeld => ?_); clear hK K; refine norm_ (a' := ?_) ?_ ?_; rotate_left
                  ·show Act.put _ (some 26) _ = _
                   simp only [Act.put, List.setIfInBounds_toArray, List.set_cons_zero, List.set_cons_succ, i64_w, i32_w]; rfl
                  exact zN (hJ1_5_11 (v335, v341, gb349) _ ⟨hHeld, (zR HO336), (zR HO342), (zR HO_19), (zR HO_298003), (zR HO_334003), (Cl.blk BK290.out), (Cl.blk BK297.out), (Cl.blk BK301.out), (Cl.blk BK325.out), (Cl.blk BK333.out), (Cl.blk BK349.out), GW349.out, GE349.out, NB290_349.out, NB349_290.out, NB297_349.out, NB349_297.out, NB301_349.out, NB349_301.out, NB325_349.out, NB349_325.out, NB333_349.out, NB349_333.out, zb⟩)
               ·skip
                rintro ⟨v335, v338⟩ w105 ⟨hS_, h0_, h1_, h2_, h3_, h4_, h5_, h6_, h7_, h8_, h9_⟩
                have HO339 := (⟨h0_⟩ : Aside0 (Kd.R (Kd.int .i64) 3 w105 w.heap.size (fun k_ => some k_ ≠ (.slice Ao71 t318.length co71 : Value).ownBlock) v338 y337))
                replace HO_19 := (⟨h1_⟩ : Aside0 (Kd.R (Kd.int .i64) 3 w105 w.heap.size (fun k_ => some k_ ≠ (v338 : Value).ownBlock) (.slice Ao71 t318.length co71) t318))
                replace HO_298003 := (⟨h2_⟩ : Aside0 (Kd.R k26 26 w105 w.heap.size (fun k_ => some k_ ≠ (.slice Ao86 t329.length co86 : Value).ownBlock ∧ k_ ≠ gb290 ∧ k_ ≠ gb297 ∧ k_ ≠ gb333) (.slice Ao17 t294.length co17) t294))
                replace HO_334003 := (⟨h3_⟩ : Aside0 (Kd.R k26 26 w105 w.heap.size (fun k_ => some k_ ≠ (.slice Ao17 t294.length co17 : Value).ownBlock ∧ k_ ≠ gb290 ∧ k_ ≠ gb297 ∧ k_ ≠ gb333) (.slice Ao86 t329.length co86) t329))
                replace BK290 := (⟨h4_⟩ : Aside0 (w105.heap[gb290]? = some (.cells #[.int .i64 a0_0, .int .i64 a0_1, .string a0_2, .slice A0_3 l0_3.length c0_3] 26 (0, 0))))
                replace BK297 := (⟨h5_⟩ : Aside0 (w105.heap[gb297]? = some (.cells #[.int .i64 t291, .int .i64 t292, .string t293, .slice Ao17 t294.length co17] 26 (0, 0))))
                replace BK301 := (⟨h6_⟩ : Aside0 (w105.heap[gb301]? = some (.cells #[.int .i64 ji8, .int .i64 ji9] 28 (0, 0))))
                replace BK325 := (⟨h7_⟩ : Aside0 (w105.heap[gb325]? = some (.cells #[.int .i64 t322, .int .i64 t323] 28 (0, 0))))
                replace BK333 := (⟨h8_⟩ : Aside0 (w105.heap[gb333]? = some (.cells #[.int .i64 t326, .int .i64 t327, .string t328, .slice Ao86 t329.length co86] 26 (0, 0))))
                replace HB := (⟨h9_⟩ : Aside0 (Below w.heap.size w w105))
                clear h0_ h1_ h2_ h3_ h4_ h5_ h6_ h7_ h8_ h9_; have hHeld : w105.cell? ⟨gb297, 0, none⟩ = some (.int .i64 t291) ∧ w105.cell? ⟨gb297, 1, none⟩ = some (.int .i64 t292) ∧ w105.cell? ⟨gb297, 2, none⟩ = some (.string t293) ∧ w105.cell? ⟨gb297, 3, none⟩ = some (.slice Ao17 t294.length co17) := hS_; refine norm_ (a' := ?_) ?_ ?_; rotate_left
                ·simp only [putAll, Act.put, List.setIfInBounds_toArray, List.set_cons_zero, List.set_cons_succ]; rfl
                refine two_ (i := 5) (j := 11) (Ni := some 158) (Nj := some 26) #[true, true, true, true, true, true, false, false, false, false, false, false, false, false] #[true, true, true, true, true, false, false, false, false, false, false, true, false, false] rfl rfl rfl rfl (two_of HT_.out (by kernel_rfl)) (by decide) (by decide) (fun K hK => ?_) (fun K hK => ?_)
                ·skip
                 refine Kd.R_lit_step (Kd.int .i64) _ 3 ?hg (N := 158) ?hd (xs := ([x25_2] : List Int)) (inner := [.int .i64 x25_2]) (ok := fun _ => True) (okp := fun _ => True) ?hr ?hp (fun _ hk => hk) trivial (Below.refl _ _) (Nat.le_refl _) (by simp) ?_; (case hd => rfl); (case hg => rfl); (case hr => first | (go_simp; done) | (go_simp; rfl)); (case hp => exact (Reps.one (show Kd.M (Kd.int .i64) _ _ _ x25_2 [.int .i64 x25_2] from rfl) (Reps.none _ _))); intro v341 w106 ho107 hb hg_ hnew_; clear hg_ hnew_
                 (first | rw [← Ny340.out] at ho107 | (simp only [Int.reduceToNat] at ho107; rw [← Ny340.out] at ho107))
                 replace HO_298003 := (zRb HO_298003 hb)
                 replace HO_334003 := (zRb HO_334003 hb)
                 have HO342 := Aside0.mk (Kd.R_lower (Kd.R_new' (Kd.R_new' ho107 (Kd.R_lt (zR HO_19))) (Kd.R_lt (zR HO339))) (below_size zb)); replace HO_19 := Aside0.mk (Kd.R_elder' (zR HO_19) (Kd.R_base ho107) hb); replace HO339 := Aside0.mk (Kd.R_elder' (zR HO339) (Kd.R_base ho107) hb)
                 replace BK290 := (zK BK290 hb)
                 replace BK297 := (zK BK297 hb)
                 replace BK301 := (zK BK301 hb)
                 replace BK325 := (zK BK325 hb)
                 replace BK333 := (zK BK333 hb)
                 replace HB := (zB hb)
                 clear hb ho107; refine hK.out _ _ ⟨(blk_cell BK297.out 0).trans rfl, (blk_cell BK297.out 1).trans rfl, (blk_cell BK297.out 2).trans rfl, (blk_cell BK297.out 3).trans rfl⟩ (fun hHeld => ?_); clear hK K; refine norm_ (a' := ?_) ?_ ?_; rotate_left
                 ·show Act.put _ (some 158) _ = _
                  simp only [Act.put, List.setIfInBounds_toArray, List.set_cons_zero, List.set_cons_succ, i64_w, i32_w]; rfl
                 exact zN (hJ1_3_5 (v335, v338, v341) _ ⟨hHeld, (zRm HO339 (fun _ hk => ⟨hk.2, hk.1⟩)), (zRm HO342 (fun _ hk => ⟨hk.2, hk.1.2⟩)), (zR HO_19), (zR HO_298003), (zR HO_334003), (Cl.blk BK290.out), (Cl.blk BK297.out), (Cl.blk BK301.out), (Cl.blk BK325.out), (Cl.blk BK333.out), zb⟩)
                ·skip
                 refine box_step ?hg (N := 26) ?hd (cs := #[.int .i64 0, .int .i64 0]) (t := 28) ?hr ?_; (case hd => rfl); (case hg => rfl); (case hr => first | (go_simp; done) | (go_simp; rfl)); intro gb349 hg w106 hbox hb
                 replace HO_19 := (zRb HO_19 hb)
                 replace HO_298003 := (zRb HO_298003 hb)
                 replace HO_334003 := (zRb HO_334003 hb)
                 replace HO339 := (zRb HO339 hb)
                 have BK349 := Aside0.mk (hbox)
                 have GW349 := (zq hg : Aside0 (w.heap.size ≤ gb349))
                 have GE349 := (zq hg : Aside0 (w.heap.size ≤ gb349))
                 replace HB := (zB hb)
                 have NB290_349 := (zl hg BK290 : Aside0 (gb290 ≠ gb349))
                 have NB349_290 := (zl' hg BK290 : Aside0 (gb349 ≠ gb290))
                 replace BK290 := (zK BK290 hb)
                 have NB297_349 := (zl hg BK297 : Aside0 (gb297 ≠ gb349))
                 have NB349_297 := (zl' hg BK297 : Aside0 (gb349 ≠ gb297))
                 replace BK297 := (zK BK297 hb)
                 have NB301_349 := (zl hg BK301 : Aside0 (gb301 ≠ gb349))
                 have NB349_301 := (zl' hg BK301 : Aside0 (gb349 ≠ gb301))
                 replace BK301 := (zK BK301 hb)
                 have NB325_349 := (zl hg BK325 : Aside0 (gb325 ≠ gb349))
                 have NB349_325 := (zl' hg BK325 : Aside0 (gb349 ≠ gb325))
                 replace BK325 := (zK BK325 hb)
                 have NB333_349 := (zl hg BK333 : Aside0 (gb333 ≠ gb349))
                 have NB349_333 := (zl' hg BK333 : Aside0 (gb349 ≠ gb333))
                 replace BK333 := (zK BK333 hb)
                 clear hb hbox hg; refine hK.out _ _ ⟨(blk_cell BK297.out 0).trans rfl, (blk_cell BK297.out 1).trans rfl, (blk_cell BK297.out 2).trans rfl, (blk_cell BK297.out 3).trans rfl⟩ (fun hHeld => ?_); clear hK K; refine norm_ (a' := ?_) ?_ ?_; rotate_left
                 ·show Act.put _ (some 26) _ = _
                  simp only [Act.put, List.setIfInBounds_toArray, List.set_cons_zero, List.set_cons_succ, i64_w, i32_w]; rfl
                 exact zN (hJ1_3_11 (v335, v338, gb349) _ ⟨hHeld, (zR HO339), (zR HO_19), (zR HO_298003), (zR HO_334003), (Cl.blk BK290.out), (Cl.blk BK297.out), (Cl.blk BK301.out), (Cl.blk BK325.out), (Cl.blk BK333.out), (Cl.blk BK349.out), GW349.out, GE349.out, NB290_349.out, NB349_290.out, NB297_349.out, NB349_297.out, NB301_349.out, NB349_301.out, NB325_349.out, NB349_325.out, NB333_349.out, NB349_333.out, zb⟩)
              ·skip
               rintro ⟨v335, v341, gb349⟩ w107 ⟨hS_, h0_, h1_, h2_, h3_, h4_, h5_, h6_, h7_, h8_, h9_, h10_, h11_, h12_, h13_, h14_, h15_, h16_, h17_, h18_, h19_, h20_, h21_, h22_, h23_⟩
               have HO336 := (⟨h0_⟩ : Aside0 (Kd.R (Kd.int .i64) 3 w107 w.heap.size (fun k_ => some k_ ≠ (v341 : Value).ownBlock ∧ some k_ ≠ (.slice Ao71 t318.length co71 : Value).ownBlock) v335 y334))
               have HO342 := (⟨h1_⟩ : Aside0 (Kd.R (Kd.int .i64) 3 w107 w.heap.size (fun k_ => some k_ ≠ (v335 : Value).ownBlock ∧ some k_ ≠ (.slice Ao71 t318.length co71 : Value).ownBlock) v341 y340))
               replace HO_19 := (⟨h2_⟩ : Aside0 (Kd.R (Kd.int .i64) 3 w107 w.heap.size (fun k_ => some k_ ≠ (v335 : Value).ownBlock ∧ some k_ ≠ (v341 : Value).ownBlock) (.slice Ao71 t318.length co71) t318))
               replace HO_298003 := (⟨h3_⟩ : Aside0 (Kd.R k26 26 w107 w.heap.size (fun k_ => some k_ ≠ (.slice Ao86 t329.length co86 : Value).ownBlock ∧ k_ ≠ gb290 ∧ k_ ≠ gb297 ∧ k_ ≠ gb333) (.slice Ao17 t294.length co17) t294))
               replace HO_334003 := (⟨h4_⟩ : Aside0 (Kd.R k26 26 w107 w.heap.size (fun k_ => some k_ ≠ (.slice Ao17 t294.length co17 : Value).ownBlock ∧ k_ ≠ gb290 ∧ k_ ≠ gb297 ∧ k_ ≠ gb333) (.slice Ao86 t329.length co86) t329))
               replace BK290 := (⟨h5_⟩ : Aside0 (w107.heap[gb290]? = some (.cells #[.int .i64 a0_0, .int .i64 a0_1, .string a0_2, .slice A0_3 l0_3.length c0_3] 26 (0, 0))))
               replace BK297 := (⟨h6_⟩ : Aside0 (w107.heap[gb297]? = some (.cells #[.int .i64 t291, .int .i64 t292, .string t293, .slice Ao17 t294.length co17] 26 (0, 0))))
               replace BK301 := (⟨h7_⟩ : Aside0 (w107.heap[gb301]? = some (.cells #[.int .i64 ji8, .int .i64 ji9] 28 (0, 0))))
               replace BK325 := (⟨h8_⟩ : Aside0 (w107.heap[gb325]? = some (.cells #[.int .i64 t322, .int .i64 t323] 28 (0, 0))))
               replace BK333 := (⟨h9_⟩ : Aside0 (w107.heap[gb333]? = some (.cells #[.int .i64 t326, .int .i64 t327, .string t328, .slice Ao86 t329.length co86] 26 (0, 0))))
               have BK349 := (⟨h10_⟩ : Aside0 (w107.heap[gb349]? = some (.cells #[.int .i64 0, .int .i64 0] 28 (0, 0))))
               have GW349 := (⟨h11_⟩ : Aside0 (w.heap.size ≤ gb349))
               have GE349 := (⟨h12_⟩ : Aside0 (w.heap.size ≤ gb349))
               have NB290_349 := (⟨h13_⟩ : Aside0 (gb290 ≠ gb349))
               have NB349_290 := (⟨h14_⟩ : Aside0 (gb349 ≠ gb290))
               have NB297_349 := (⟨h15_⟩ : Aside0 (gb297 ≠ gb349))
               have NB349_297 := (⟨h16_⟩ : Aside0 (gb349 ≠ gb297))
               have NB301_349 := (⟨h17_⟩ : Aside0 (gb301 ≠ gb349))
               have NB349_301 := (⟨h18_⟩ : Aside0 (gb349 ≠ gb301))
               have NB325_349 := (⟨h19_⟩ : Aside0 (gb325 ≠ gb349))
               have NB349_325 := (⟨h20_⟩ : Aside0 (gb349 ≠ gb325))
               have NB333_349 := (⟨h21_⟩ : Aside0 (gb333 ≠ gb349))
               have NB349_333 := (⟨h22_⟩ : Aside0 (gb349 ≠ gb333))
               replace HB := (⟨h23_⟩ : Aside0 (Below w.heap.size w w107))
               clear h0_ h1_ h2_ h3_ h4_ h5_ h6_ h7_ h8_ h9_ h10_ h11_ h12_ h13_ h14_ h15_ h16_ h17_ h18_ h19_ h20_ h21_ h22_ h23_; have hHeld : w107.cell? ⟨gb297, 0, none⟩ = some (.int .i64 t291) ∧ w107.cell? ⟨gb297, 1, none⟩ = some (.int .i64 t292) ∧ w107.cell? ⟨gb297, 2, none⟩ = some (.string t293) ∧ w107.cell? ⟨gb297, 3, none⟩ = some (.slice Ao17 t294.length co17) := hS_; refine norm_ (a' := ?_) ?_ ?_; rotate_left
               ·simp only [putAll, Act.put, List.setIfInBounds_toArray, List.set_cons_zero, List.set_cons_succ]; rfl
               refine one_ (i := 3) (N := some 156) #[true, true, true, true, true, true, false, false, false, false, false, true, false, false] rfl rfl (one_of HT_.out (by kernel_rfl)) (by decide) (fun K hK => ?_); refine Kd.R_append_rows_step (Kd.int .i64) (w0 := w) w.heap.size (by rfl) (.tmp 154) (.tmp 155) 30 3 (.int .i64 0) 8 rfl Try.underlying30 info3 rfl (by decide) (by omega) v335 y334 t318 _ _ _ (fun k_ => some k_ ≠ (.slice Ao71 t318.length co71 : Value).ownBlock ∧ some k_ ≠ (v341 : Value).ownBlock) (fun _ => False) rfl rfl ?aO ?aR (fun _ _ h => h) (fun _ h => h.elim) ?aF ?aB ?aS ?aL ?_
               (case aR => exact zE' (Kd.R_reads' HO_19.out).2.2)
               (case aB => exact zb)
               (case aF => exact (fun k_ hk => ⟨Kd.fresh' (Kd.R_lt (zR HO_19)) k_ hk, Kd.fresh' (Kd.R_lt (zR HO342)) k_ hk⟩))
               (case aO => exact (zRm HO336 (fun _ hk => ⟨hk.2, hk.1⟩)))
               (case aS => exact (below_size zb))
               (case aL => have := LMc90.out; omega)
               intro v338 w108 ho hb hg hat; rw [← Ny337.out] at ho; replace HO_19 := Aside0.mk (Kd.R_after (ok := (fun k_ => some k_ ≠ (v341 : Value).ownBlock)) (zRm HO_19 (fun _ hk => ⟨hk.2, hk.1⟩)) hg hat); replace HO_298003 := Aside0.mk (Kd.R_over' (zR HO_298003) (Kd.R_typed (zR HO336)) (by decide) hg); replace HO_334003 := Aside0.mk (Kd.R_over' (zR HO_334003) (Kd.R_typed (zR HO336)) (by decide) hg)
               replace BK290 := (blk_grown' BK290 hg (Kd.R_ne HO336.out BK290.out (by decide)))
               replace BK297 := (blk_grown' BK297 hg (Kd.R_ne HO336.out BK297.out (by decide)))
               replace BK301 := (blk_grown' BK301 hg (Kd.R_ne HO336.out BK301.out (by decide)))
               replace BK325 := (blk_grown' BK325 hg (Kd.R_ne HO336.out BK325.out (by decide)))
               replace BK333 := (blk_grown' BK333 hg (Kd.R_ne HO336.out BK333.out (by decide)))
               replace HO342 := Aside0.mk (Kd.R_after (ok := (fun k_ => some k_ ≠ (.slice Ao71 t318.length co71 : Value).ownBlock)) (zRm HO342 (fun _ hk => ⟨hk.2, hk.1⟩)) hg hat)
               replace BK349 := (blk_grown' BK349 hg (Kd.R_ne HO336.out BK349.out (by decide)))
               replace HB := Aside0.mk (hb); have HO339 := Aside0.mk (ho); clear HO336 ho hb hg hat; refine hK.out _ _ ⟨(blk_cell BK297.out 0).trans rfl, (blk_cell BK297.out 1).trans rfl, (blk_cell BK297.out 2).trans rfl, (blk_cell BK297.out 3).trans rfl⟩ (fun hHeld => ?_); clear hK K; refine norm_ (a' := ?_) ?_ ?_; rotate_left
               ·show Act.put _ (some 156) _ = _
                simp only [Act.put, List.setIfInBounds_toArray, List.set_cons_zero, List.set_cons_succ, i64_w, i32_w]; rfl
               exact zN (hJ1_3_5_11 (v335, v338, v341, gb349) _ ⟨hHeld, (zRm HO339 (fun _ hk => ⟨hk.2, hk.1⟩)), (zRm HO342 (fun _ hk => ⟨hk.2, hk.1⟩)), (zRm HO_19 (fun _ hk => ⟨hk.2, hk.1⟩)), (zR HO_298003), (zR HO_334003), (Cl.blk BK290.out), (Cl.blk BK297.out), (Cl.blk BK301.out), (Cl.blk BK325.out), (Cl.blk BK333.out), (Cl.blk BK349.out), GW349.out, GE349.out, NB290_349.out, NB349_290.out, NB297_349.out, NB349_297.out, NB301_349.out, NB349_301.out, NB325_349.out, NB349_325.out, NB333_349.out, NB349_333.out, zb⟩)
             ·skip
              rintro ⟨v335, v338, gb349⟩ w106 ⟨hS_, h0_, h1_, h2_, h3_, h4_, h5_, h6_, h7_, h8_, h9_, h10_, h11_, h12_, h13_, h14_, h15_, h16_, h17_, h18_, h19_, h20_, h21_, h22_⟩
              have HO339 := (⟨h0_⟩ : Aside0 (Kd.R (Kd.int .i64) 3 w106 w.heap.size (fun k_ => some k_ ≠ (.slice Ao71 t318.length co71 : Value).ownBlock) v338 y337))
              replace HO_19 := (⟨h1_⟩ : Aside0 (Kd.R (Kd.int .i64) 3 w106 w.heap.size (fun k_ => some k_ ≠ (v338 : Value).ownBlock) (.slice Ao71 t318.length co71) t318))
              replace HO_298003 := (⟨h2_⟩ : Aside0 (Kd.R k26 26 w106 w.heap.size (fun k_ => some k_ ≠ (.slice Ao86 t329.length co86 : Value).ownBlock ∧ k_ ≠ gb290 ∧ k_ ≠ gb297 ∧ k_ ≠ gb333) (.slice Ao17 t294.length co17) t294))
              replace HO_334003 := (⟨h3_⟩ : Aside0 (Kd.R k26 26 w106 w.heap.size (fun k_ => some k_ ≠ (.slice Ao17 t294.length co17 : Value).ownBlock ∧ k_ ≠ gb290 ∧ k_ ≠ gb297 ∧ k_ ≠ gb333) (.slice Ao86 t329.length co86) t329))
              replace BK290 := (⟨h4_⟩ : Aside0 (w106.heap[gb290]? = some (.cells #[.int .i64 a0_0, .int .i64 a0_1, .string a0_2, .slice A0_3 l0_3.length c0_3] 26 (0, 0))))
              replace BK297 := (⟨h5_⟩ : Aside0 (w106.heap[gb297]? = some (.cells #[.int .i64 t291, .int .i64 t292, .string t293, .slice Ao17 t294.length co17] 26 (0, 0))))
              replace BK301 := (⟨h6_⟩ : Aside0 (w106.heap[gb301]? = some (.cells #[.int .i64 ji8, .int .i64 ji9] 28 (0, 0))))
              replace BK325 := (⟨h7_⟩ : Aside0 (w106.heap[gb325]? = some (.cells #[.int .i64 t322, .int .i64 t323] 28 (0, 0))))
              replace BK333 := (⟨h8_⟩ : Aside0 (w106.heap[gb333]? = some (.cells #[.int .i64 t326, .int .i64 t327, .string t328, .slice Ao86 t329.length co86] 26 (0, 0))))
              have BK349 := (⟨h9_⟩ : Aside0 (w106.heap[gb349]? = some (.cells #[.int .i64 0, .int .i64 0] 28 (0, 0))))
              have GW349 := (⟨h10_⟩ : Aside0 (w.heap.size ≤ gb349))
              have GE349 := (⟨h11_⟩ : Aside0 (w.heap.size ≤ gb349))
              have NB290_349 := (⟨h12_⟩ : Aside0 (gb290 ≠ gb349))
              have NB349_290 := (⟨h13_⟩ : Aside0 (gb349 ≠ gb290))
              have NB297_349 := (⟨h14_⟩ : Aside0 (gb297 ≠ gb349))
              have NB349_297 := (⟨h15_⟩ : Aside0 (gb349 ≠ gb297))
              have NB301_349 := (⟨h16_⟩ : Aside0 (gb301 ≠ gb349))
              have NB349_301 := (⟨h17_⟩ : Aside0 (gb349 ≠ gb301))
              have NB325_349 := (⟨h18_⟩ : Aside0 (gb325 ≠ gb349))
              have NB349_325 := (⟨h19_⟩ : Aside0 (gb349 ≠ gb325))
              have NB333_349 := (⟨h20_⟩ : Aside0 (gb333 ≠ gb349))
              have NB349_333 := (⟨h21_⟩ : Aside0 (gb349 ≠ gb333))
              replace HB := (⟨h22_⟩ : Aside0 (Below w.heap.size w w106))
              clear h0_ h1_ h2_ h3_ h4_ h5_ h6_ h7_ h8_ h9_ h10_ h11_ h12_ h13_ h14_ h15_ h16_ h17_ h18_ h19_ h20_ h21_ h22_; have hHeld : w106.cell? ⟨gb297, 0, none⟩ = some (.int .i64 t291) ∧ w106.cell? ⟨gb297, 1, none⟩ = some (.int .i64 t292) ∧ w106.cell? ⟨gb297, 2, none⟩ = some (.string t293) ∧ w106.cell? ⟨gb297, 3, none⟩ = some (.slice Ao17 t294.length co17) := hS_; refine norm_ (a' := ?_) ?_ ?_; rotate_left
              ·simp only [putAll, Act.put, List.setIfInBounds_toArray, List.set_cons_zero, List.set_cons_succ]; rfl
              refine one_ (i := 5) (N := some 158) #[true, true, true, true, true, true, false, false, false, false, false, true, false, false] rfl rfl (one_of HT_.out (by kernel_rfl)) (by decide) (fun K hK => ?_); refine Kd.R_lit_step (Kd.int .i64) _ 3 ?hg (N := 158) ?hd (xs := ([x25_2] : List Int)) (inner := [.int .i64 x25_2]) (ok := fun _ => True) (okp := fun _ => True) ?hr ?hp (fun _ hk => hk) trivial (Below.refl _ _) (Nat.le_refl _) (by simp) ?_; (case hd => rfl); (case hg => rfl); (case hr => first | (go_simp; done) | (go_simp; rfl)); (case hp => exact (Reps.one (show Kd.M (Kd.int .i64) _ _ _ x25_2 [.int .i64 x25_2] from rfl) (Reps.none _ _))); intro v341 w107 ho108 hb hg_ hnew_; clear hg_ hnew_
              (first | rw [← Ny340.out] at ho108 | (simp only [Int.reduceToNat] at ho108; rw [← Ny340.out] at ho108))
              replace HO_298003 := (zRb HO_298003 hb)
              replace HO_334003 := (zRb HO_334003 hb)
              have HO342 := Aside0.mk (Kd.R_lower (Kd.R_new' (Kd.R_new' ho108 (Kd.R_lt (zR HO_19))) (Kd.R_lt (zR HO339))) (below_size zb)); replace HO_19 := Aside0.mk (Kd.R_elder' (zR HO_19) (Kd.R_base ho108) hb); replace HO339 := Aside0.mk (Kd.R_elder' (zR HO339) (Kd.R_base ho108) hb)
              replace BK290 := (zK BK290 hb)
              replace BK297 := (zK BK297 hb)
              replace BK301 := (zK BK301 hb)
              replace BK325 := (zK BK325 hb)
              replace BK333 := (zK BK333 hb)
              replace BK349 := (zK BK349 hb)
              replace HB := (zB hb)
              clear hb ho108; refine hK.out _ _ ⟨(blk_cell BK297.out 0).trans rfl, (blk_cell BK297.out 1).trans rfl, (blk_cell BK297.out 2).trans rfl, (blk_cell BK297.out 3).trans rfl⟩ (fun hHeld => ?_); clear hK K; refine norm_ (a' := ?_) ?_ ?_; rotate_left
              ·show Act.put _ (some 158) _ = _
               simp only [Act.put, List.setIfInBounds_toArray, List.set_cons_zero, List.set_cons_succ, i64_w, i32_w]; rfl
              exact zN (hJ1_3_5_11 (v335, v338, v341, gb349) _ ⟨hHeld, (zRm HO339 (fun _ hk => ⟨hk.2, hk.1⟩)), (zRm HO342 (fun _ hk => ⟨hk.2, hk.1.2⟩)), (zR HO_19), (zR HO_298003), (zR HO_334003), (Cl.blk BK290.out), (Cl.blk BK297.out), (Cl.blk BK301.out), (Cl.blk BK325.out), (Cl.blk BK333.out), (Cl.blk BK349.out), GW349.out, GE349.out, NB290_349.out, NB349_290.out, NB297_349.out, NB349_297.out, NB301_349.out, NB349_301.out, NB325_349.out, NB349_325.out, NB333_349.out, NB349_333.out, zb⟩)
            ·skip
             rintro ⟨v335, v338, v341⟩ w107 ⟨hS_, h0_, h1_, h2_, h3_, h4_, h5_, h6_, h7_, h8_, h9_, h10_⟩
             have HO339 := (⟨h0_⟩ : Aside0 (Kd.R (Kd.int .i64) 3 w107 w.heap.size (fun k_ => some k_ ≠ (v341 : Value).ownBlock ∧ some k_ ≠ (.slice Ao71 t318.length co71 : Value).ownBlock) v338 y337))
             have HO342 := (⟨h1_⟩ : Aside0 (Kd.R (Kd.int .i64) 3 w107 w.heap.size (fun k_ => some k_ ≠ (v338 : Value).ownBlock ∧ some k_ ≠ (.slice Ao71 t318.length co71 : Value).ownBlock) v341 y340))
             replace HO_19 := (⟨h2_⟩ : Aside0 (Kd.R (Kd.int .i64) 3 w107 w.heap.size (fun k_ => some k_ ≠ (v338 : Value).ownBlock ∧ some k_ ≠ (v341 : Value).ownBlock) (.slice Ao71 t318.length co71) t318))
             replace HO_298003 := (⟨h3_⟩ : Aside0 (Kd.R k26 26 w107 w.heap.size (fun k_ => some k_ ≠ (.slice Ao86 t329.length co86 : Value).ownBlock ∧ k_ ≠ gb290 ∧ k_ ≠ gb297 ∧ k_ ≠ gb333) (.slice Ao17 t294.length co17) t294))
             replace HO_334003 := (⟨h4_⟩ : Aside0 (Kd.R k26 26 w107 w.heap.size (fun k_ => some k_ ≠ (.slice Ao17 t294.length co17 : Value).ownBlock ∧ k_ ≠ gb290 ∧ k_ ≠ gb297 ∧ k_ ≠ gb333) (.slice Ao86 t329.length co86) t329))
             replace BK290 := (⟨h5_⟩ : Aside0 (w107.heap[gb290]? = some (.cells #[.int .i64 a0_0, .int .i64 a0_1, .string a0_2, .slice A0_3 l0_3.length c0_3] 26 (0, 0))))
             replace BK297 := (⟨h6_⟩ : Aside0 (w107.heap[gb297]? = some (.cells #[.int .i64 t291, .int .i64 t292, .string t293, .slice Ao17 t294.length co17] 26 (0, 0))))
             replace BK301 := (⟨h7_⟩ : Aside0 (w107.heap[gb301]? = some (.cells #[.int .i64 ji8, .int .i64 ji9] 28 (0, 0))))
             replace BK325 := (⟨h8_⟩ : Aside0 (w107.heap[gb325]? = some (.cells #[.int .i64 t322, .int .i64 t323] 28 (0, 0))))
             replace BK333 := (⟨h9_⟩ : Aside0 (w107.heap[gb333]? = some (.cells #[.int .i64 t326, .int .i64 t327, .string t328, .slice Ao86 t329.length co86] 26 (0, 0))))
             replace HB := (⟨h10_⟩ : Aside0 (Below w.heap.size w w107))
             clear h0_ h1_ h2_ h3_ h4_ h5_ h6_ h7_ h8_ h9_ h10_; have hHeld : w107.cell? ⟨gb297, 0, none⟩ = some (.int .i64 t291) ∧ w107.cell? ⟨gb297, 1, none⟩ = some (.int .i64 t292) ∧ w107.cell? ⟨gb297, 2, none⟩ = some (.string t293) ∧ w107.cell? ⟨gb297, 3, none⟩ = some (.slice Ao17 t294.length co17) := hS_; obtain ⟨Ao109, co109, eo109⟩ := Kd.R_slice HO342.out
             (first | subst eo109 | (injection eo109 with f1_ f2_ f3_; have f4_ := f1_.symm; have f5_ := f3_.symm; clear f1_ f2_ f3_; subst f4_; subst f5_))
             refine norm_ (a' := ?_) ?_ ?_; rotate_left
             ·simp only [putAll, Act.put, List.setIfInBounds_toArray, List.set_cons_zero, List.set_cons_succ]; rfl
             refine two_ (i := 6) (j := 11) (Ni := some 159) (Nj := some 26) #[true, true, true, true, true, true, true, false, false, false, false, false, false, false] #[true, true, true, true, true, true, false, false, false, false, false, true, false, false] rfl rfl rfl rfl (two_of HT_.out (by kernel_rfl)) (by decide) (by decide) (fun K hK => ?_) (fun K hK => ?_)
             ·skip
              refine Kd.R_append_rows_step (Kd.int .i64) (w0 := w) w.heap.size (by rfl) (.tmp 156) (.tmp 158) 30 3 (.int .i64 0) 8 rfl Try.underlying30 info3 rfl (by decide) (by omega) v338 y337 y340 _ _ _ (fun k_ => some k_ ≠ (.slice Ao71 t318.length co71 : Value).ownBlock ∧ some k_ ≠ (.slice Ao109 y340.length co109 : Value).ownBlock) (fun _ => False) rfl rfl ?aO ?aR (fun _ _ h => h) (fun _ h => h.elim) ?aF ?aB ?aS ?aL ?_
              (case aR => exact zE' (Kd.R_reads' HO342.out).2.2)
              (case aB => exact zb)
              (case aF => exact (fun k_ hk => ⟨Kd.fresh' (Kd.R_lt (zR HO_19)) k_ hk, Kd.fresh' (Kd.R_lt (zR HO342)) k_ hk⟩))
              (case aO => exact (zRm HO339 (fun _ hk => ⟨hk.2, hk.1⟩)))
              (case aS => exact (below_size zb))
              (case aL => have := LMc91.out; omega)
              intro v344 w108 ho hb hg hat; rw [← Ny343.out] at ho; replace HO_19 := Aside0.mk (Kd.R_after (ok := (fun k_ => some k_ ≠ (.slice Ao109 y340.length co109 : Value).ownBlock)) (zRm HO_19 (fun _ hk => ⟨hk.2, hk.1⟩)) hg hat); replace HO_298003 := Aside0.mk (Kd.R_over' (zR HO_298003) (Kd.R_typed (zR HO339)) (by decide) hg); replace HO_334003 := Aside0.mk (Kd.R_over' (zR HO_334003) (Kd.R_typed (zR HO339)) (by decide) hg)
              replace BK290 := (blk_grown' BK290 hg (Kd.R_ne HO339.out BK290.out (by decide)))
              replace BK297 := (blk_grown' BK297 hg (Kd.R_ne HO339.out BK297.out (by decide)))
              replace BK301 := (blk_grown' BK301 hg (Kd.R_ne HO339.out BK301.out (by decide)))
              replace BK325 := (blk_grown' BK325 hg (Kd.R_ne HO339.out BK325.out (by decide)))
              replace BK333 := (blk_grown' BK333 hg (Kd.R_ne HO339.out BK333.out (by decide)))
              replace HO342 := Aside0.mk (Kd.R_after (ok := (fun k_ => some k_ ≠ (.slice Ao71 t318.length co71 : Value).ownBlock)) (zRm HO342 (fun _ hk => ⟨hk.2, hk.1⟩)) hg hat); replace HB := Aside0.mk (hb); have HO345 := Aside0.mk (ho); clear HO339 ho hb hg hat; refine hK.out _ _ ⟨(blk_cell BK297.out 0).trans rfl, (blk_cell BK297.out 1).trans rfl, (blk_cell BK297.out 2).trans rfl, (blk_cell BK297.out 3).trans rfl⟩ (fun hHeld => ?_); clear hK K; refine norm_ (a' := ?_) ?_ ?_; rotate_left
              ·show Act.put _ (some 159) _ = _
               simp only [Act.put, List.setIfInBounds_toArray, List.set_cons_zero, List.set_cons_succ, i64_w, i32_w]; rfl
              exact zN (hJ1_3_5_6 (v335, v338, .slice Ao109 y340.length co109, v344) _ ⟨hHeld, (zRm HO342 (fun _ hk => ⟨hk.2, hk.1⟩)), (zRm HO345 (fun _ hk => ⟨hk.2, hk.1⟩)), (zR HO_19), (zR HO_298003), (zR HO_334003), (Cl.blk BK290.out), (Cl.blk BK297.out), (Cl.blk BK301.out), (Cl.blk BK325.out), (Cl.blk BK333.out), zb⟩)
             ·skip
              refine box_step ?hg (N := 26) ?hd (cs := #[.int .i64 0, .int .i64 0]) (t := 28) ?hr ?_; (case hd => rfl); (case hg => rfl); (case hr => first | (go_simp; done) | (go_simp; rfl)); intro gb349 hg w108 hbox hb
              replace HO_19 := (zRb HO_19 hb)
              replace HO_298003 := (zRb HO_298003 hb)
              replace HO_334003 := (zRb HO_334003 hb)
              replace HO339 := (zRb HO339 hb)
              replace HO342 := (zRb HO342 hb)
              have BK349 := Aside0.mk (hbox)
              have GW349 := (zq hg : Aside0 (w.heap.size ≤ gb349))
              have GE349 := (zq hg : Aside0 (w.heap.size ≤ gb349))
              replace HB := (zB hb)
              have NB290_349 := (zl hg BK290 : Aside0 (gb290 ≠ gb349))
              have NB349_290 := (zl' hg BK290 : Aside0 (gb349 ≠ gb290))
              replace BK290 := (zK BK290 hb)
              have NB297_349 := (zl hg BK297 : Aside0 (gb297 ≠ gb349))
              have NB349_297 := (zl' hg BK297 : Aside0 (gb349 ≠ gb297))
              replace BK297 := (zK BK297 hb)
              have NB301_349 := (zl hg BK301 : Aside0 (gb301 ≠ gb349))
              have NB349_301 := (zl' hg BK301 : Aside0 (gb349 ≠ gb301))
              replace BK301 := (zK BK301 hb)
              have NB325_349 := (zl hg BK325 : Aside0 (gb325 ≠ gb349))
              have NB349_325 := (zl' hg BK325 : Aside0 (gb349 ≠ gb325))
              replace BK325 := (zK BK325 hb)
              have NB333_349 := (zl hg BK333 : Aside0 (gb333 ≠ gb349))
              have NB349_333 := (zl' hg BK333 : Aside0 (gb349 ≠ gb333))
              replace BK333 := (zK BK333 hb)
              clear hb hbox hg; refine hK.out _ _ ⟨(blk_cell BK297.out 0).trans rfl, (blk_cell BK297.out 1).trans rfl, (blk_cell BK297.out 2).trans rfl, (blk_cell BK297.out 3).trans rfl⟩ (fun hHeld => ?_); clear hK K; refine norm_ (a' := ?_) ?_ ?_; rotate_left
              ·show Act.put _ (some 26) _ = _
               simp only [Act.put, List.setIfInBounds_toArray, List.set_cons_zero, List.set_cons_succ, i64_w, i32_w]; rfl
              exact zN (hJ1_3_5_11 (v335, v338, (.slice Ao109 y340.length co109 : Value), gb349) _ ⟨hHeld, (zR HO339), (zR HO342), (zR HO_19), (zR HO_298003), (zR HO_334003), (Cl.blk BK290.out), (Cl.blk BK297.out), (Cl.blk BK301.out), (Cl.blk BK325.out), (Cl.blk BK333.out), (Cl.blk BK349.out), GW349.out, GE349.out, NB290_349.out, NB349_290.out, NB297_349.out, NB349_297.out, NB301_349.out, NB349_301.out, NB325_349.out, NB349_325.out, NB333_349.out, NB349_333.out, zb⟩)
           ·skip
            rintro ⟨v335, v338, v341, gb349⟩ w108 ⟨hS_, h0_, h1_, h2_, h3_, h4_, h5_, h6_, h7_, h8_, h9_, h10_, h11_, h12_, h13_, h14_, h15_, h16_, h17_, h18_, h19_, h20_, h21_, h22_, h23_⟩
            have HO339 := (⟨h0_⟩ : Aside0 (Kd.R (Kd.int .i64) 3 w108 w.heap.size (fun k_ => some k_ ≠ (v341 : Value).ownBlock ∧ some k_ ≠ (.slice Ao71 t318.length co71 : Value).ownBlock) v338 y337))
            have HO342 := (⟨h1_⟩ : Aside0 (Kd.R (Kd.int .i64) 3 w108 w.heap.size (fun k_ => some k_ ≠ (v338 : Value).ownBlock ∧ some k_ ≠ (.slice Ao71 t318.length co71 : Value).ownBlock) v341 y340))
            replace HO_19 := (⟨h2_⟩ : Aside0 (Kd.R (Kd.int .i64) 3 w108 w.heap.size (fun k_ => some k_ ≠ (v338 : Value).ownBlock ∧ some k_ ≠ (v341 : Value).ownBlock) (.slice Ao71 t318.length co71) t318))
            replace HO_298003 := (⟨h3_⟩ : Aside0 (Kd.R k26 26 w108 w.heap.size (fun k_ => some k_ ≠ (.slice Ao86 t329.length co86 : Value).ownBlock ∧ k_ ≠ gb290 ∧ k_ ≠ gb297 ∧ k_ ≠ gb333) (.slice Ao17 t294.length co17) t294))
            replace HO_334003 := (⟨h4_⟩ : Aside0 (Kd.R k26 26 w108 w.heap.size (fun k_ => some k_ ≠ (.slice Ao17 t294.length co17 : Value).ownBlock ∧ k_ ≠ gb290 ∧ k_ ≠ gb297 ∧ k_ ≠ gb333) (.slice Ao86 t329.length co86) t329))
            replace BK290 := (⟨h5_⟩ : Aside0 (w108.heap[gb290]? = some (.cells #[.int .i64 a0_0, .int .i64 a0_1, .string a0_2, .slice A0_3 l0_3.length c0_3] 26 (0, 0))))
            replace BK297 := (⟨h6_⟩ : Aside0 (w108.heap[gb297]? = some (.cells #[.int .i64 t291, .int .i64 t292, .string t293, .slice Ao17 t294.length co17] 26 (0, 0))))
            replace BK301 := (⟨h7_⟩ : Aside0 (w108.heap[gb301]? = some (.cells #[.int .i64 ji8, .int .i64 ji9] 28 (0, 0))))
            replace BK325 := (⟨h8_⟩ : Aside0 (w108.heap[gb325]? = some (.cells #[.int .i64 t322, .int .i64 t323] 28 (0, 0))))
            replace BK333 := (⟨h9_⟩ : Aside0 (w108.heap[gb333]? = some (.cells #[.int .i64 t326, .int .i64 t327, .string t328, .slice Ao86 t329.length co86] 26 (0, 0))))
            have BK349 := (⟨h10_⟩ : Aside0 (w108.heap[gb349]? = some (.cells #[.int .i64 0, .int .i64 0] 28 (0, 0))))
            have GW349 := (⟨h11_⟩ : Aside0 (w.heap.size ≤ gb349))
            have GE349 := (⟨h12_⟩ : Aside0 (w.heap.size ≤ gb349))
            have NB290_349 := (⟨h13_⟩ : Aside0 (gb290 ≠ gb349))
            have NB349_290 := (⟨h14_⟩ : Aside0 (gb349 ≠ gb290))
            have NB297_349 := (⟨h15_⟩ : Aside0 (gb297 ≠ gb349))
            have NB349_297 := (⟨h16_⟩ : Aside0 (gb349 ≠ gb297))
            have NB301_349 := (⟨h17_⟩ : Aside0 (gb301 ≠ gb349))
            have NB349_301 := (⟨h18_⟩ : Aside0 (gb349 ≠ gb301))
            have NB325_349 := (⟨h19_⟩ : Aside0 (gb325 ≠ gb349))
            have NB349_325 := (⟨h20_⟩ : Aside0 (gb349 ≠ gb325))
            have NB333_349 := (⟨h21_⟩ : Aside0 (gb333 ≠ gb349))
            have NB349_333 := (⟨h22_⟩ : Aside0 (gb349 ≠ gb333))
            replace HB := (⟨h23_⟩ : Aside0 (Below w.heap.size w w108))
            clear h0_ h1_ h2_ h3_ h4_ h5_ h6_ h7_ h8_ h9_ h10_ h11_ h12_ h13_ h14_ h15_ h16_ h17_ h18_ h19_ h20_ h21_ h22_ h23_; have hHeld : w108.cell? ⟨gb297, 0, none⟩ = some (.int .i64 t291) ∧ w108.cell? ⟨gb297, 1, none⟩ = some (.int .i64 t292) ∧ w108.cell? ⟨gb297, 2, none⟩ = some (.string t293) ∧ w108.cell? ⟨gb297, 3, none⟩ = some (.slice Ao17 t294.length co17) := hS_; obtain ⟨Ao110, co110, eo110⟩ := Kd.R_slice HO342.out
            (first | subst eo110 | (injection eo110 with f1_ f2_ f3_; have f4_ := f1_.symm; have f5_ := f3_.symm; clear f1_ f2_ f3_; subst f4_; subst f5_))
            refine norm_ (a' := ?_) ?_ ?_; rotate_left
            ·simp only [putAll, Act.put, List.setIfInBounds_toArray, List.set_cons_zero, List.set_cons_succ]; rfl
            refine one_ (i := 6) (N := some 159) #[true, true, true, true, true, true, true, false, false, false, false, true, false, false] rfl rfl (one_of HT_.out (by kernel_rfl)) (by decide) (fun K hK => ?_); refine Kd.R_append_rows_step (Kd.int .i64) (w0 := w) w.heap.size (by rfl) (.tmp 156) (.tmp 158) 30 3 (.int .i64 0) 8 rfl Try.underlying30 info3 rfl (by decide) (by omega) v338 y337 y340 _ _ _ (fun k_ => some k_ ≠ (.slice Ao71 t318.length co71 : Value).ownBlock ∧ some k_ ≠ (.slice Ao110 y340.length co110 : Value).ownBlock) (fun _ => False) rfl rfl ?aO ?aR (fun _ _ h => h) (fun _ h => h.elim) ?aF ?aB ?aS ?aL ?_
            (case aR => exact zE' (Kd.R_reads' HO342.out).2.2)
            (case aB => exact zb)
            (case aF => exact (fun k_ hk => ⟨Kd.fresh' (Kd.R_lt (zR HO_19)) k_ hk, Kd.fresh' (Kd.R_lt (zR HO342)) k_ hk⟩))
            (case aO => exact (zRm HO339 (fun _ hk => ⟨hk.2, hk.1⟩)))
            (case aS => exact (below_size zb))
            (case aL => have := LMc91.out; omega)
            intro v344 w109 ho hb hg hat; rw [← Ny343.out] at ho; replace HO_19 := Aside0.mk (Kd.R_after (ok := (fun k_ => some k_ ≠ (.slice Ao110 y340.length co110 : Value).ownBlock)) (zRm HO_19 (fun _ hk => ⟨hk.2, hk.1⟩)) hg hat); replace HO_298003 := Aside0.mk (Kd.R_over' (zR HO_298003) (Kd.R_typed (zR HO339)) (by decide) hg); replace HO_334003 := Aside0.mk (Kd.R_over' (zR HO_334003) (Kd.R_typed (zR HO339)) (by decide) hg)
            replace BK290 := (blk_grown' BK290 hg (Kd.R_ne HO339.out BK290.out (by decide)))
            replace BK297 := (blk_grown' BK297 hg (Kd.R_ne HO339.out BK297.out (by decide)))
            replace BK301 := (blk_grown' BK301 hg (Kd.R_ne HO339.out BK301.out (by decide)))
            replace BK325 := (blk_grown' BK325 hg (Kd.R_ne HO339.out BK325.out (by decide)))
            replace BK333 := (blk_grown' BK333 hg (Kd.R_ne HO339.out BK333.out (by decide)))
            replace HO342 := Aside0.mk (Kd.R_after (ok := (fun k_ => some k_ ≠ (.slice Ao71 t318.length co71 : Value).ownBlock)) (zRm HO342 (fun _ hk => ⟨hk.2, hk.1⟩)) hg hat)
            replace BK349 := (blk_grown' BK349 hg (Kd.R_ne HO339.out BK349.out (by decide)))
            replace HB := Aside0.mk (hb); have HO345 := Aside0.mk (ho); clear HO339 ho hb hg hat; refine hK.out _ _ ⟨(blk_cell BK297.out 0).trans rfl, (blk_cell BK297.out 1).trans rfl, (blk_cell BK297.out 2).trans rfl, (blk_cell BK297.out 3).trans rfl⟩ (fun hHeld => ?_); clear hK K; refine norm_ (a' := ?_) ?_ ?_; rotate_left
            ·show Act.put _ (some 159) _ = _
             simp only [Act.put, List.setIfInBounds_toArray, List.set_cons_zero, List.set_cons_succ, i64_w, i32_w]; rfl
            exact zN (hJ1_3_5_6_11 (v335, v338, .slice Ao110 y340.length co110, v344, gb349) _ ⟨hHeld, (zRm HO342 (fun _ hk => ⟨hk.2, hk.1⟩)), (zRm HO345 (fun _ hk => ⟨hk.2, hk.1⟩)), (zR HO_19), (zR HO_298003), (zR HO_334003), (Cl.blk BK290.out), (Cl.blk BK297.out), (Cl.blk BK301.out), (Cl.blk BK325.out), (Cl.blk BK333.out), (Cl.blk BK349.out), GW349.out, GE349.out, NB290_349.out, NB349_290.out, NB297_349.out, NB349_297.out, NB301_349.out, NB349_301.out, NB325_349.out, NB349_325.out, NB333_349.out, NB349_333.out, zb⟩)
          ·skip
           rintro ⟨v335, v338, v341, v344⟩ w109 ⟨hS_, h0_, h1_, h2_, h3_, h4_, h5_, h6_, h7_, h8_, h9_, h10_⟩
           have HO342 := (⟨h0_⟩ : Aside0 (Kd.R (Kd.int .i64) 3 w109 w.heap.size (fun k_ => some k_ ≠ (v344 : Value).ownBlock ∧ some k_ ≠ (.slice Ao71 t318.length co71 : Value).ownBlock) v341 y340))
           have HO345 := (⟨h1_⟩ : Aside0 (Kd.R (Kd.int .i64) 3 w109 w.heap.size (fun k_ => some k_ ≠ (v341 : Value).ownBlock ∧ some k_ ≠ (.slice Ao71 t318.length co71 : Value).ownBlock) v344 y343))
           replace HO_19 := (⟨h2_⟩ : Aside0 (Kd.R (Kd.int .i64) 3 w109 w.heap.size (fun k_ => some k_ ≠ (v341 : Value).ownBlock ∧ some k_ ≠ (v344 : Value).ownBlock) (.slice Ao71 t318.length co71) t318))
           replace HO_298003 := (⟨h3_⟩ : Aside0 (Kd.R k26 26 w109 w.heap.size (fun k_ => some k_ ≠ (.slice Ao86 t329.length co86 : Value).ownBlock ∧ k_ ≠ gb290 ∧ k_ ≠ gb297 ∧ k_ ≠ gb333) (.slice Ao17 t294.length co17) t294))
           replace HO_334003 := (⟨h4_⟩ : Aside0 (Kd.R k26 26 w109 w.heap.size (fun k_ => some k_ ≠ (.slice Ao17 t294.length co17 : Value).ownBlock ∧ k_ ≠ gb290 ∧ k_ ≠ gb297 ∧ k_ ≠ gb333) (.slice Ao86 t329.length co86) t329))
           replace BK290 := (⟨h5_⟩ : Aside0 (w109.heap[gb290]? = some (.cells #[.int .i64 a0_0, .int .i64 a0_1, .string a0_2, .slice A0_3 l0_3.length c0_3] 26 (0, 0))))
           replace BK297 := (⟨h6_⟩ : Aside0 (w109.heap[gb297]? = some (.cells #[.int .i64 t291, .int .i64 t292, .string t293, .slice Ao17 t294.length co17] 26 (0, 0))))
           replace BK301 := (⟨h7_⟩ : Aside0 (w109.heap[gb301]? = some (.cells #[.int .i64 ji8, .int .i64 ji9] 28 (0, 0))))
           replace BK325 := (⟨h8_⟩ : Aside0 (w109.heap[gb325]? = some (.cells #[.int .i64 t322, .int .i64 t323] 28 (0, 0))))
           replace BK333 := (⟨h9_⟩ : Aside0 (w109.heap[gb333]? = some (.cells #[.int .i64 t326, .int .i64 t327, .string t328, .slice Ao86 t329.length co86] 26 (0, 0))))
           replace HB := (⟨h10_⟩ : Aside0 (Below w.heap.size w w109))
           clear h0_ h1_ h2_ h3_ h4_ h5_ h6_ h7_ h8_ h9_ h10_; have hHeld : w109.cell? ⟨gb297, 0, none⟩ = some (.int .i64 t291) ∧ w109.cell? ⟨gb297, 1, none⟩ = some (.int .i64 t292) ∧ w109.cell? ⟨gb297, 2, none⟩ = some (.string t293) ∧ w109.cell? ⟨gb297, 3, none⟩ = some (.slice Ao17 t294.length co17) := hS_; obtain ⟨Ao110, co110, eo110⟩ := Kd.R_slice HO345.out
           (first | subst eo110 | (injection eo110 with f1_ f2_ f3_; have f4_ := f1_.symm; have f5_ := f3_.symm; clear f1_ f2_ f3_; subst f4_; subst f5_))
           refine norm_ (a' := ?_) ?_ ?_; rotate_left
           ·simp only [putAll, Act.put, List.setIfInBounds_toArray, List.set_cons_zero, List.set_cons_succ]; rfl
           refine two_ (i := 7) (j := 11) (Ni := some 160) (Nj := some 26) #[true, true, true, true, true, true, true, true, false, false, false, false, false, false] #[true, true, true, true, true, true, true, false, false, false, false, true, false, false] rfl rfl rfl rfl (two_of HT_.out (by kernel_rfl)) (by decide) (by decide) (fun K hK => ?_) (fun K hK => ?_)
           ·skip
            refine goes_ Try.func48 (by kernel_rfl) rfl #[.agg #[.int .i64 t291, .int .i64 t292, .string t293, .slice Ao17 t294.length co17], .slice Ao110 y343.length co110] (by rfl) rfl rfl (by (try simp only [List.map_toArray, List.map_cons, List.map_nil]); first | done | rfl | (simp only [List.length_drop, List.length_take]; rfl)) ?_
            with_reducible refine (tree_Span.calls k2 t291 t292 t293 _ _ t294 _ _ y343 t346 t347 t348 _ ?side1 ?side2 ?side3 ?side4 A92.out).mono ?_
            (case side1 => exact zE' (Kd.R_reads' HO_298003.out).2.2)
            (case side2 => exact (Kd.R_reads' HO_298003.out).2.1)
            (case side3 => exact zE' (Kd.R_reads' HO345.out).2.2)
            (case side4 => exact (Kd.R_reads' HO345.out).2.1)
            rintro e w111 ⟨rfl, hb⟩; refine ⟨_, rfl, ?_⟩
            replace HO_19 := (zRb HO_19 hb)
            replace HO_298003 := (zRb HO_298003 hb)
            replace HO_334003 := (zRb HO_334003 hb)
            replace HO342 := (zRb HO342 hb)
            replace HO345 := (zRb HO345 hb)
            replace BK290 := (zK BK290 hb)
            replace BK297 := (zK BK297 hb)
            replace BK301 := (zK BK301 hb)
            replace BK325 := (zK BK325 hb)
            replace BK333 := (zK BK333 hb)
            replace HB := (zB hb)
            (try clear hb)
            (try clear hb2)
            (try clear hk)
            (try clear hi)
            refine hK.out _ _ ⟨(blk_cell BK297.out 0).trans rfl, (blk_cell BK297.out 1).trans rfl, (blk_cell BK297.out 2).trans rfl, (blk_cell BK297.out 3).trans rfl⟩ (fun hHeld => ?_); clear hK K; refine norm_ (a' := ?_) ?_ ?_; rotate_left
            ·show Act.put _ (some 160) _ = _
             simp only [Act.put, List.setIfInBounds_toArray, List.set_cons_zero, List.set_cons_succ, i64_w, i32_w]; rfl
            refine zp 8 152 HT_ ?_; refine zp 9 161 HT_ ?_; refine zp 10 162 HT_ ?_; exact zN (hJ1_3_5_6_7 (v335, v338, v341, .slice Ao110 y343.length co110) _ ⟨hHeld, (zR HO342), (zR HO345), (zR HO_19), (zR HO_298003), (zR HO_334003), (Cl.blk BK290.out), (Cl.blk BK297.out), (Cl.blk BK301.out), (Cl.blk BK325.out), (Cl.blk BK333.out), zb⟩)
           ·skip
            refine box_step ?hg (N := 26) ?hd (cs := #[.int .i64 0, .int .i64 0]) (t := 28) ?hr ?_; (case hd => rfl); (case hg => rfl); (case hr => first | (go_simp; done) | (go_simp; rfl)); intro gb349 hg w110 hbox hb
            replace HO_19 := (zRb HO_19 hb)
            replace HO_298003 := (zRb HO_298003 hb)
            replace HO_334003 := (zRb HO_334003 hb)
            replace HO342 := (zRb HO342 hb)
            replace HO345 := (zRb HO345 hb)
            have BK349 := Aside0.mk (hbox)
            have GW349 := (zq hg : Aside0 (w.heap.size ≤ gb349))
            have GE349 := (zq hg : Aside0 (w.heap.size ≤ gb349))
            replace HB := (zB hb)
            have NB290_349 := (zl hg BK290 : Aside0 (gb290 ≠ gb349))
            have NB349_290 := (zl' hg BK290 : Aside0 (gb349 ≠ gb290))
            replace BK290 := (zK BK290 hb)
            have NB297_349 := (zl hg BK297 : Aside0 (gb297 ≠ gb349))
            have NB349_297 := (zl' hg BK297 : Aside0 (gb349 ≠ gb297))
            replace BK297 := (zK BK297 hb)
            have NB301_349 := (zl hg BK301 : Aside0 (gb301 ≠ gb349))
            have NB349_301 := (zl' hg BK301 : Aside0 (gb349 ≠ gb301))
            replace BK301 := (zK BK301 hb)
            have NB325_349 := (zl hg BK325 : Aside0 (gb325 ≠ gb349))
            have NB349_325 := (zl' hg BK325 : Aside0 (gb349 ≠ gb325))
            replace BK325 := (zK BK325 hb)
            have NB333_349 := (zl hg BK333 : Aside0 (gb333 ≠ gb349))
            have NB349_333 := (zl' hg BK333 : Aside0 (gb349 ≠ gb333))
            replace BK333 := (zK BK333 hb)
            clear hb hbox hg; refine hK.out _ _ ⟨(blk_cell BK297.out 0).trans rfl, (blk_cell BK297.out 1).trans rfl, (blk_cell BK297.out 2).trans rfl, (blk_cell BK297.out 3).trans rfl⟩ (fun hHeld => ?_); clear hK K; refine norm_ (a' := ?_) ?_ ?_; rotate_left
            ·show Act.put _ (some 26) _ = _
             simp only [Act.put, List.setIfInBounds_toArray, List.set_cons_zero, List.set_cons_succ, i64_w, i32_w]; rfl
            exact zN (hJ1_3_5_6_11 (v335, v338, v341, (.slice Ao110 y343.length co110 : Value), gb349) _ ⟨hHeld, (zR HO342), (zR HO345), (zR HO_19), (zR HO_298003), (zR HO_334003), (Cl.blk BK290.out), (Cl.blk BK297.out), (Cl.blk BK301.out), (Cl.blk BK325.out), (Cl.blk BK333.out), (Cl.blk BK349.out), GW349.out, GE349.out, NB290_349.out, NB349_290.out, NB297_349.out, NB349_297.out, NB301_349.out, NB349_301.out, NB325_349.out, NB349_325.out, NB333_349.out, NB349_333.out, zb⟩)
         ·skip
          rintro ⟨v335, v338, v341, v344, gb349⟩ w110 ⟨hS_, h0_, h1_, h2_, h3_, h4_, h5_, h6_, h7_, h8_, h9_, h10_, h11_, h12_, h13_, h14_, h15_, h16_, h17_, h18_, h19_, h20_, h21_, h22_, h23_⟩
          have HO342 := (⟨h0_⟩ : Aside0 (Kd.R (Kd.int .i64) 3 w110 w.heap.size (fun k_ => some k_ ≠ (v344 : Value).ownBlock ∧ some k_ ≠ (.slice Ao71 t318.length co71 : Value).ownBlock) v341 y340))
          have HO345 := (⟨h1_⟩ : Aside0 (Kd.R (Kd.int .i64) 3 w110 w.heap.size (fun k_ => some k_ ≠ (v341 : Value).ownBlock ∧ some k_ ≠ (.slice Ao71 t318.length co71 : Value).ownBlock) v344 y343))
          replace HO_19 := (⟨h2_⟩ : Aside0 (Kd.R (Kd.int .i64) 3 w110 w.heap.size (fun k_ => some k_ ≠ (v341 : Value).ownBlock ∧ some k_ ≠ (v344 : Value).ownBlock) (.slice Ao71 t318.length co71) t318))
          replace HO_298003 := (⟨h3_⟩ : Aside0 (Kd.R k26 26 w110 w.heap.size (fun k_ => some k_ ≠ (.slice Ao86 t329.length co86 : Value).ownBlock ∧ k_ ≠ gb290 ∧ k_ ≠ gb297 ∧ k_ ≠ gb333) (.slice Ao17 t294.length co17) t294))
          replace HO_334003 := (⟨h4_⟩ : Aside0 (Kd.R k26 26 w110 w.heap.size (fun k_ => some k_ ≠ (.slice Ao17 t294.length co17 : Value).ownBlock ∧ k_ ≠ gb290 ∧ k_ ≠ gb297 ∧ k_ ≠ gb333) (.slice Ao86 t329.length co86) t329))
          replace BK290 := (⟨h5_⟩ : Aside0 (w110.heap[gb290]? = some (.cells #[.int .i64 a0_0, .int .i64 a0_1, .string a0_2, .slice A0_3 l0_3.length c0_3] 26 (0, 0))))
          replace BK297 := (⟨h6_⟩ : Aside0 (w110.heap[gb297]? = some (.cells #[.int .i64 t291, .int .i64 t292, .string t293, .slice Ao17 t294.length co17] 26 (0, 0))))
          replace BK301 := (⟨h7_⟩ : Aside0 (w110.heap[gb301]? = some (.cells #[.int .i64 ji8, .int .i64 ji9] 28 (0, 0))))
          replace BK325 := (⟨h8_⟩ : Aside0 (w110.heap[gb325]? = some (.cells #[.int .i64 t322, .int .i64 t323] 28 (0, 0))))
          replace BK333 := (⟨h9_⟩ : Aside0 (w110.heap[gb333]? = some (.cells #[.int .i64 t326, .int .i64 t327, .string t328, .slice Ao86 t329.length co86] 26 (0, 0))))
          have BK349 := (⟨h10_⟩ : Aside0 (w110.heap[gb349]? = some (.cells #[.int .i64 0, .int .i64 0] 28 (0, 0))))
          have GW349 := (⟨h11_⟩ : Aside0 (w.heap.size ≤ gb349))
          have GE349 := (⟨h12_⟩ : Aside0 (w.heap.size ≤ gb349))
          have NB290_349 := (⟨h13_⟩ : Aside0 (gb290 ≠ gb349))
          have NB349_290 := (⟨h14_⟩ : Aside0 (gb349 ≠ gb290))
          have NB297_349 := (⟨h15_⟩ : Aside0 (gb297 ≠ gb349))
          have NB349_297 := (⟨h16_⟩ : Aside0 (gb349 ≠ gb297))
          have NB301_349 := (⟨h17_⟩ : Aside0 (gb301 ≠ gb349))
          have NB349_301 := (⟨h18_⟩ : Aside0 (gb349 ≠ gb301))
          have NB325_349 := (⟨h19_⟩ : Aside0 (gb325 ≠ gb349))
          have NB349_325 := (⟨h20_⟩ : Aside0 (gb349 ≠ gb325))
          have NB333_349 := (⟨h21_⟩ : Aside0 (gb333 ≠ gb349))
          have NB349_333 := (⟨h22_⟩ : Aside0 (gb349 ≠ gb333))
          replace HB := (⟨h23_⟩ : Aside0 (Below w.heap.size w w110))
          clear h0_ h1_ h2_ h3_ h4_ h5_ h6_ h7_ h8_ h9_ h10_ h11_ h12_ h13_ h14_ h15_ h16_ h17_ h18_ h19_ h20_ h21_ h22_ h23_; have hHeld : w110.cell? ⟨gb297, 0, none⟩ = some (.int .i64 t291) ∧ w110.cell? ⟨gb297, 1, none⟩ = some (.int .i64 t292) ∧ w110.cell? ⟨gb297, 2, none⟩ = some (.string t293) ∧ w110.cell? ⟨gb297, 3, none⟩ = some (.slice Ao17 t294.length co17) := hS_; obtain ⟨Ao111, co111, eo111⟩ := Kd.R_slice HO345.out
          (first | subst eo111 | (injection eo111 with f1_ f2_ f3_; have f4_ := f1_.symm; have f5_ := f3_.symm; clear f1_ f2_ f3_; subst f4_; subst f5_))
          refine norm_ (a' := ?_) ?_ ?_; rotate_left
          ·simp only [putAll, Act.put, List.setIfInBounds_toArray, List.set_cons_zero, List.set_cons_succ]; rfl
          refine one_ (i := 7) (N := some 160) #[true, true, true, true, true, true, true, true, false, false, false, true, false, false] rfl rfl (one_of HT_.out (by kernel_rfl)) (by decide) (fun K hK => ?_); refine goes_ Try.func48 (by kernel_rfl) rfl #[.agg #[.int .i64 t291, .int .i64 t292, .string t293, .slice Ao17 t294.length co17], .slice Ao111 y343.length co111] (by rfl) rfl rfl (by (try simp only [List.map_toArray, List.map_cons, List.map_nil]); first | done | rfl | (simp only [List.length_drop, List.length_take]; rfl)) ?_
          with_reducible refine (tree_Span.calls k2 t291 t292 t293 _ _ t294 _ _ y343 t346 t347 t348 _ ?side1 ?side2 ?side3 ?side4 A92.out).mono ?_
          (case side1 => exact zE' (Kd.R_reads' HO_298003.out).2.2)
          (case side2 => exact (Kd.R_reads' HO_298003.out).2.1)
          (case side3 => exact zE' (Kd.R_reads' HO345.out).2.2)
          (case side4 => exact (Kd.R_reads' HO345.out).2.1)
          rintro e w112 ⟨rfl, hb⟩; refine ⟨_, rfl, ?_⟩
          replace HO_19 := (zRb HO_19 hb)
          replace HO_298003 := (zRb HO_298003 hb)
          replace HO_334003 := (zRb HO_334003 hb)
          replace HO342 := (zRb HO342 hb)
          replace HO345 := (zRb HO345 hb)
          replace BK290 := (zK BK290 hb)
          replace BK297 := (zK BK297 hb)
          replace BK301 := (zK BK301 hb)
          replace BK325 := (zK BK325 hb)
          replace BK333 := (zK BK333 hb)
          replace BK349 := (zK BK349 hb)
          replace HB := (zB hb)
          (try clear hb)
          (try clear hb2)
          (try clear hk)
          (try clear hi)
          refine hK.out _ _ ⟨(blk_cell BK297.out 0).trans rfl, (blk_cell BK297.out 1).trans rfl, (blk_cell BK297.out 2).trans rfl, (blk_cell BK297.out 3).trans rfl⟩ (fun hHeld => ?_); clear hK K; refine norm_ (a' := ?_) ?_ ?_; rotate_left
          ·show Act.put _ (some 160) _ = _
           simp only [Act.put, List.setIfInBounds_toArray, List.set_cons_zero, List.set_cons_succ, i64_w, i32_w]; rfl
          refine zp 8 152 HT_ ?_; refine zp 9 161 HT_ ?_; refine zp 10 162 HT_ ?_; exact zN (hJ1_3_5_6_7_11 (v335, v338, v341, .slice Ao111 y343.length co111, gb349) _ ⟨hHeld, (zR HO342), (zR HO345), (zR HO_19), (zR HO_298003), (zR HO_334003), (Cl.blk BK290.out), (Cl.blk BK297.out), (Cl.blk BK301.out), (Cl.blk BK325.out), (Cl.blk BK333.out), (Cl.blk BK349.out), GW349.out, GE349.out, NB290_349.out, NB349_290.out, NB297_349.out, NB349_297.out, NB301_349.out, NB349_301.out, NB325_349.out, NB349_325.out, NB333_349.out, NB349_333.out, zb⟩)
        ·skip
         rintro ⟨v335, v338, v341, v344⟩ w111 ⟨hS_, h0_, h1_, h2_, h3_, h4_, h5_, h6_, h7_, h8_, h9_, h10_⟩
         have HO342 := (⟨h0_⟩ : Aside0 (Kd.R (Kd.int .i64) 3 w111 w.heap.size (fun k_ => some k_ ≠ (v344 : Value).ownBlock ∧ some k_ ≠ (.slice Ao71 t318.length co71 : Value).ownBlock) v341 y340))
         have HO345 := (⟨h1_⟩ : Aside0 (Kd.R (Kd.int .i64) 3 w111 w.heap.size (fun k_ => some k_ ≠ (v341 : Value).ownBlock ∧ some k_ ≠ (.slice Ao71 t318.length co71 : Value).ownBlock) v344 y343))
         replace HO_19 := (⟨h2_⟩ : Aside0 (Kd.R (Kd.int .i64) 3 w111 w.heap.size (fun k_ => some k_ ≠ (v341 : Value).ownBlock ∧ some k_ ≠ (v344 : Value).ownBlock) (.slice Ao71 t318.length co71) t318))
         replace HO_298003 := (⟨h3_⟩ : Aside0 (Kd.R k26 26 w111 w.heap.size (fun k_ => some k_ ≠ (.slice Ao86 t329.length co86 : Value).ownBlock ∧ k_ ≠ gb290 ∧ k_ ≠ gb297 ∧ k_ ≠ gb333) (.slice Ao17 t294.length co17) t294))
         replace HO_334003 := (⟨h4_⟩ : Aside0 (Kd.R k26 26 w111 w.heap.size (fun k_ => some k_ ≠ (.slice Ao17 t294.length co17 : Value).ownBlock ∧ k_ ≠ gb290 ∧ k_ ≠ gb297 ∧ k_ ≠ gb333) (.slice Ao86 t329.length co86) t329))
         replace BK290 := (⟨h5_⟩ : Aside0 (w111.heap[gb290]? = some (.cells #[.int .i64 a0_0, .int .i64 a0_1, .string a0_2, .slice A0_3 l0_3.length c0_3] 26 (0, 0))))
         replace BK297 := (⟨h6_⟩ : Aside0 (w111.heap[gb297]? = some (.cells #[.int .i64 t291, .int .i64 t292, .string t293, .slice Ao17 t294.length co17] 26 (0, 0))))
         replace BK301 := (⟨h7_⟩ : Aside0 (w111.heap[gb301]? = some (.cells #[.int .i64 ji8, .int .i64 ji9] 28 (0, 0))))
         replace BK325 := (⟨h8_⟩ : Aside0 (w111.heap[gb325]? = some (.cells #[.int .i64 t322, .int .i64 t323] 28 (0, 0))))
         replace BK333 := (⟨h9_⟩ : Aside0 (w111.heap[gb333]? = some (.cells #[.int .i64 t326, .int .i64 t327, .string t328, .slice Ao86 t329.length co86] 26 (0, 0))))
         replace HB := (⟨h10_⟩ : Aside0 (Below w.heap.size w w111))
         clear h0_ h1_ h2_ h3_ h4_ h5_ h6_ h7_ h8_ h9_ h10_; have hHeld : w111.cell? ⟨gb297, 0, none⟩ = some (.int .i64 t291) ∧ w111.cell? ⟨gb297, 1, none⟩ = some (.int .i64 t292) ∧ w111.cell? ⟨gb297, 2, none⟩ = some (.string t293) ∧ w111.cell? ⟨gb297, 3, none⟩ = some (.slice Ao17 t294.length co17) := hS_; refine norm_ (a' := ?_) ?_ ?_; rotate_left
         ·simp only [putAll, Act.put, List.setIfInBounds_toArray, List.set_cons_zero, List.set_cons_succ]; rfl
         refine one_ (i := 11) (N := some 26) #[true, true, true, true, true, true, true, true, true, true, true, true, false, false] rfl rfl (one_of HT_.out (by kernel_rfl)) (by decide) (fun K hK => ?_); refine box_step ?hg (N := 26) ?hd (cs := #[.int .i64 0, .int .i64 0]) (t := 28) ?hr ?_; (case hd => rfl); (case hg => rfl); (case hr => first | (go_simp; done) | (go_simp; rfl)); intro gb349 hg w112 hbox hb
         replace HO_19 := (zRb HO_19 hb)
         replace HO_298003 := (zRb HO_298003 hb)
         replace HO_334003 := (zRb HO_334003 hb)
         replace HO342 := (zRb HO342 hb)
         replace HO345 := (zRb HO345 hb)
         have BK349 := Aside0.mk (hbox)
         have GW349 := (zq hg : Aside0 (w.heap.size ≤ gb349))
         have GE349 := (zq hg : Aside0 (w.heap.size ≤ gb349))
         replace HB := (zB hb)
         have NB290_349 := (zl hg BK290 : Aside0 (gb290 ≠ gb349))
         have NB349_290 := (zl' hg BK290 : Aside0 (gb349 ≠ gb290))
         replace BK290 := (zK BK290 hb)
         have NB297_349 := (zl hg BK297 : Aside0 (gb297 ≠ gb349))
         have NB349_297 := (zl' hg BK297 : Aside0 (gb349 ≠ gb297))
         replace BK297 := (zK BK297 hb)
         have NB301_349 := (zl hg BK301 : Aside0 (gb301 ≠ gb349))
         have NB349_301 := (zl' hg BK301 : Aside0 (gb349 ≠ gb301))
         replace BK301 := (zK BK301 hb)
         have NB325_349 := (zl hg BK325 : Aside0 (gb325 ≠ gb349))
         have NB349_325 := (zl' hg BK325 : Aside0 (gb349 ≠ gb325))
         replace BK325 := (zK BK325 hb)
         have NB333_349 := (zl hg BK333 : Aside0 (gb333 ≠ gb349))
         have NB349_333 := (zl' hg BK333 : Aside0 (gb349 ≠ gb333))
         replace BK333 := (zK BK333 hb)
         clear hb hbox hg; refine hK.out _ _ ⟨(blk_cell BK297.out 0).trans rfl, (blk_cell BK297.out 1).trans rfl, (blk_cell BK297.out 2).trans rfl, (blk_cell BK297.out 3).trans rfl⟩ (fun hHeld => ?_); clear hK K; refine norm_ (a' := ?_) ?_ ?_; rotate_left
         ·show Act.put _ (some 26) _ = _
          simp only [Act.put, List.setIfInBounds_toArray, List.set_cons_zero, List.set_cons_succ, i64_w, i32_w]; rfl
         exact zN (hJ1_3_5_6_7_11 (v335, v338, v341, v344, gb349) _ ⟨hHeld, (zR HO342), (zR HO345), (zR HO_19), (zR HO_298003), (zR HO_334003), (Cl.blk BK290.out), (Cl.blk BK297.out), (Cl.blk BK301.out), (Cl.blk BK325.out), (Cl.blk BK333.out), (Cl.blk BK349.out), GW349.out, GE349.out, NB290_349.out, NB349_290.out, NB297_349.out, NB349_297.out, NB301_349.out, NB349_301.out, NB325_349.out, NB349_325.out, NB333_349.out, NB349_333.out, zb⟩)
       rintro ⟨v335, v338, v341, v344, gb349⟩ w112 ⟨hS_, h0_, h1_, h2_, h3_, h4_, h5_, h6_, h7_, h8_, h9_, h10_, h11_, h12_, h13_, h14_, h15_, h16_, h17_, h18_, h19_, h20_, h21_, h22_, h23_⟩
       have HO342 := (⟨h0_⟩ : Aside0 (Kd.R (Kd.int .i64) 3 w112 w.heap.size (fun k_ => some k_ ≠ (v344 : Value).ownBlock ∧ some k_ ≠ (.slice Ao71 t318.length co71 : Value).ownBlock) v341 y340))
       have HO345 := (⟨h1_⟩ : Aside0 (Kd.R (Kd.int .i64) 3 w112 w.heap.size (fun k_ => some k_ ≠ (v341 : Value).ownBlock ∧ some k_ ≠ (.slice Ao71 t318.length co71 : Value).ownBlock) v344 y343))
       replace HO_19 := (⟨h2_⟩ : Aside0 (Kd.R (Kd.int .i64) 3 w112 w.heap.size (fun k_ => some k_ ≠ (v341 : Value).ownBlock ∧ some k_ ≠ (v344 : Value).ownBlock) (.slice Ao71 t318.length co71) t318))
       replace HO_298003 := (⟨h3_⟩ : Aside0 (Kd.R k26 26 w112 w.heap.size (fun k_ => some k_ ≠ (.slice Ao86 t329.length co86 : Value).ownBlock ∧ k_ ≠ gb290 ∧ k_ ≠ gb297 ∧ k_ ≠ gb333) (.slice Ao17 t294.length co17) t294))
       replace HO_334003 := (⟨h4_⟩ : Aside0 (Kd.R k26 26 w112 w.heap.size (fun k_ => some k_ ≠ (.slice Ao17 t294.length co17 : Value).ownBlock ∧ k_ ≠ gb290 ∧ k_ ≠ gb297 ∧ k_ ≠ gb333) (.slice Ao86 t329.length co86) t329))
       replace BK290 := (⟨h5_⟩ : Aside0 (w112.heap[gb290]? = some (.cells #[.int .i64 a0_0, .int .i64 a0_1, .string a0_2, .slice A0_3 l0_3.length c0_3] 26 (0, 0))))
       replace BK297 := (⟨h6_⟩ : Aside0 (w112.heap[gb297]? = some (.cells #[.int .i64 t291, .int .i64 t292, .string t293, .slice Ao17 t294.length co17] 26 (0, 0))))
       replace BK301 := (⟨h7_⟩ : Aside0 (w112.heap[gb301]? = some (.cells #[.int .i64 ji8, .int .i64 ji9] 28 (0, 0))))
       replace BK325 := (⟨h8_⟩ : Aside0 (w112.heap[gb325]? = some (.cells #[.int .i64 t322, .int .i64 t323] 28 (0, 0))))
       replace BK333 := (⟨h9_⟩ : Aside0 (w112.heap[gb333]? = some (.cells #[.int .i64 t326, .int .i64 t327, .string t328, .slice Ao86 t329.length co86] 26 (0, 0))))
       have BK349 := (⟨h10_⟩ : Aside0 (w112.heap[gb349]? = some (.cells #[.int .i64 0, .int .i64 0] 28 (0, 0))))
       have GW349 := (⟨h11_⟩ : Aside0 (w.heap.size ≤ gb349))
       have GE349 := (⟨h12_⟩ : Aside0 (w.heap.size ≤ gb349))
       have NB290_349 := (⟨h13_⟩ : Aside0 (gb290 ≠ gb349))
       have NB349_290 := (⟨h14_⟩ : Aside0 (gb349 ≠ gb290))
       have NB297_349 := (⟨h15_⟩ : Aside0 (gb297 ≠ gb349))
       have NB349_297 := (⟨h16_⟩ : Aside0 (gb349 ≠ gb297))
       have NB301_349 := (⟨h17_⟩ : Aside0 (gb301 ≠ gb349))
       have NB349_301 := (⟨h18_⟩ : Aside0 (gb349 ≠ gb301))
       have NB325_349 := (⟨h19_⟩ : Aside0 (gb325 ≠ gb349))
       have NB349_325 := (⟨h20_⟩ : Aside0 (gb349 ≠ gb325))
       have NB333_349 := (⟨h21_⟩ : Aside0 (gb333 ≠ gb349))
       have NB349_333 := (⟨h22_⟩ : Aside0 (gb349 ≠ gb333))
       replace HB := (⟨h23_⟩ : Aside0 (Below w.heap.size w w112))
       clear h0_ h1_ h2_ h3_ h4_ h5_ h6_ h7_ h8_ h9_ h10_ h11_ h12_ h13_ h14_ h15_ h16_ h17_ h18_ h19_ h20_ h21_ h22_ h23_; have hHeld : w112.cell? ⟨gb297, 0, none⟩ = some (.int .i64 t291) ∧ w112.cell? ⟨gb297, 1, none⟩ = some (.int .i64 t292) ∧ w112.cell? ⟨gb297, 2, none⟩ = some (.string t293) ∧ w112.cell? ⟨gb297, 3, none⟩ = some (.slice Ao17 t294.length co17) := hS_; refine norm_ (a' := ?_) ?_ ?_; rotate_left
       ·simp only [putAll, Act.put, List.setIfInBounds_toArray, List.set_cons_zero, List.set_cons_succ]; rfl
       refine one_ (i := 12) (N := none) #[true, true, true, true, true, true, true, true, true, true, true, true, true, false] rfl rfl (one_of HT_.out (by kernel_rfl)) (by decide) (fun K hK => ?_); have hs113 : w112.cell? ⟨gb349, 0, none⟩ = some (.int .i64 0) := (blk_cell BK349.out 0).trans rfl; have hfs113 := blk_frozen BK349.out 0; have hns113_0 := NB290_349.out; have hns113_1 := NB297_349.out; have hns113_2 := NB301_349.out; have hns113_3 := NB325_349.out; have hns113_4 := NB333_349.out; have hms113_0 := NB349_290.out; have hms113_1 := NB349_297.out; have hms113_2 := NB349_301.out; have hms113_3 := NB349_325.out; have hms113_4 := NB349_333.out; have hs114 : w112.cell? ⟨gb349, 1, none⟩ = some (.int .i64 0) := (blk_cell BK349.out 1).trans rfl; have hfs114 := blk_frozen BK349.out 1; have hns114_0 := NB290_349.out; have hns114_1 := NB297_349.out; have hns114_2 := NB301_349.out; have hns114_3 := NB325_349.out; have hns114_4 := NB333_349.out; have hms114_0 := NB349_290.out; have hms114_1 := NB349_297.out; have hms114_2 := NB349_301.out; have hms114_3 := NB349_325.out; have hms114_4 := NB349_333.out; refine skip_ (w1 := ?_) (by rfl) rfl ?_ ?_; rotate_left
       ·go_simp; rfl
       refine hK.out _ _ ⟨((cell_far (p := ⟨gb349, _, none⟩) NB297_349.out _).trans (((cell_far (p := ⟨gb349, _, none⟩) NB297_349.out _).trans (hHeld.1)))), ((cell_far (p := ⟨gb349, _, none⟩) NB297_349.out _).trans (((cell_far (p := ⟨gb349, _, none⟩) NB297_349.out _).trans (hHeld.2.1)))), ((cell_far (p := ⟨gb349, _, none⟩) NB297_349.out _).trans (((cell_far (p := ⟨gb349, _, none⟩) NB297_349.out _).trans (hHeld.2.2.1)))), ((cell_far (p := ⟨gb349, _, none⟩) NB297_349.out _).trans (((cell_far (p := ⟨gb349, _, none⟩) NB297_349.out _).trans (hHeld.2.2.2))))⟩ (fun hHeld => ?_); clear hK K; refine zp 13 27 HT_ ?_; refine done_ (done_of HT_.out (by kernel_rfl)) ?_; have H := HH_.out; clear HH_; by_cases c94 : t346 ≤ ji8
       ·rw [if_pos c94] at H; have c94b0 := decide_eq_true c94; clear c94; replace H := zj1 H; obtain ⟨c95b0, H⟩ := H; have H' := Aside0.mk H; clear H; have hnb115 := NB349_290.out; have hnc115 := NB290_349.out; have hnb116 := NB349_297.out; have hnc116 := NB297_349.out; have hnb117 := NB349_301.out; have hnc117 := NB301_349.out; have hnb118 := NB349_325.out; have hnc118 := NB325_349.out; have hnb119 := NB349_333.out; have hnc119 := NB333_349.out; obtain ⟨hcz120_0, hcz120_1⟩ := zc2 BK349; obtain ⟨hfz120_0, hfz120_1⟩ := zz2 BK349; have hnb121 := NB301_290.out; have hnc121 := NB290_301.out; have hnb122 := NB301_297.out; have hnc122 := NB297_301.out; have hnb123 := NB301_325.out; have hnc123 := NB325_301.out; obtain ⟨hcz124_0, hcz124_1⟩ := zc2 BK301; obtain ⟨hfz124_0, hfz124_1⟩ := zz2 BK301
        try go_wp2
        go_roundg k2
        case measure => have := HJ9.out; have := HK2.out; omega
        case rel => exact ⟨(wrap64 (x25_2 + 1)), zs, H', ⟨by have := HJ9.out; have := HK2.out; omega⟩, ⟨by (with_reducible repeat (first | apply Kd.R_alloc | apply Kd.R_drewN | apply Kd.R_drew)); exact Kd.R_mono (Kd.R_far (p := ⟨gb349, 1, none⟩) (Kd.R_far (p := ⟨gb349, 0, none⟩) (Kd.R_types HO_19.out BK349.out (by decide)) (fun _ hk => hk.2) (.int .i64 t346)) (fun _ hk => hk.2) (.int .i64 t347)) (fun _ hk => trivial)⟩, ⟨by (with_reducible repeat (first | apply Kd.R_alloc | apply Kd.R_drewN | apply Kd.R_drew)); exact Kd.R_mono (Kd.R_far (p := ⟨gb349, 1, none⟩) (Kd.R_far (p := ⟨gb349, 0, none⟩) (Kd.R_types HO_298003.out BK349.out (by decide)) (fun _ hk => hk.2) (.int .i64 t346)) (fun _ hk => hk.2) (.int .i64 t347)) (fun _ hk => ⟨hk.1.1, ⟨hk.1.2.1, ⟨hk.1.2.2.1, hk.1.2.2.2⟩⟩⟩)⟩, ⟨by (with_reducible repeat (first | apply Kd.R_alloc | apply Kd.R_drewN | apply Kd.R_drew)); exact Kd.R_mono (Kd.R_far (p := ⟨gb349, 1, none⟩) (Kd.R_far (p := ⟨gb349, 0, none⟩) (Kd.R_types HO_334003.out BK349.out (by decide)) (fun _ hk => hk.2) (.int .i64 t346)) (fun _ hk => hk.2) (.int .i64 t347)) (fun _ hk => ⟨hk.1.1, ⟨hk.1.2.1, ⟨hk.1.2.2.1, hk.1.2.2.2⟩⟩⟩)⟩, ⟨zw⟩, ⟨zw⟩, ⟨zw⟩, ⟨zw⟩, ⟨zw⟩, ⟨zb⟩⟩
       ·rw [if_neg c94] at H; have c94b0 := decide_eq_false c94; clear c94; have H' := Aside0.mk H; clear H; have hnb144 := NB349_290.out; have hnc144 := NB290_349.out; have hnb145 := NB349_297.out; have hnc145 := NB297_349.out; have hnb146 := NB349_301.out; have hnc146 := NB301_349.out; have hnb147 := NB349_325.out; have hnc147 := NB325_349.out; have hnb148 := NB349_333.out; have hnc148 := NB333_349.out; obtain ⟨hcz149_0, hcz149_1⟩ := zc2 BK349; obtain ⟨hfz149_0, hfz149_1⟩ := zz2 BK349; have hnb150 := NB301_290.out; have hnc150 := NB290_301.out; have hnb151 := NB301_297.out; have hnc151 := NB297_301.out; have hnb152 := NB301_325.out; have hnc152 := NB325_301.out; obtain ⟨hcz153_0, hcz153_1⟩ := zc2 BK301; obtain ⟨hfz153_0, hfz153_1⟩ := zz2 BK301
        try go_wp2
        go_roundg k2
        case measure => have := HJ9.out; have := HK2.out; omega
        case rel => exact ⟨(wrap64 (x25_2 + 1)), zs, H', ⟨by have := HJ9.out; have := HK2.out; omega⟩, ⟨by (with_reducible repeat (first | apply Kd.R_alloc | apply Kd.R_drewN | apply Kd.R_drew)); exact Kd.R_mono (Kd.R_far (p := ⟨gb349, 1, none⟩) (Kd.R_far (p := ⟨gb349, 0, none⟩) (Kd.R_types HO_19.out BK349.out (by decide)) (fun _ hk => hk.2) (.int .i64 t346)) (fun _ hk => hk.2) (.int .i64 t347)) (fun _ hk => trivial)⟩, ⟨by (with_reducible repeat (first | apply Kd.R_alloc | apply Kd.R_drewN | apply Kd.R_drew)); exact Kd.R_mono (Kd.R_far (p := ⟨gb349, 1, none⟩) (Kd.R_far (p := ⟨gb349, 0, none⟩) (Kd.R_types HO_298003.out BK349.out (by decide)) (fun _ hk => hk.2) (.int .i64 t346)) (fun _ hk => hk.2) (.int .i64 t347)) (fun _ hk => ⟨hk.1.1, ⟨hk.1.2.1, ⟨hk.1.2.2.1, hk.1.2.2.2⟩⟩⟩)⟩, ⟨by (with_reducible repeat (first | apply Kd.R_alloc | apply Kd.R_drewN | apply Kd.R_drew)); exact Kd.R_mono (Kd.R_far (p := ⟨gb349, 1, none⟩) (Kd.R_far (p := ⟨gb349, 0, none⟩) (Kd.R_types HO_334003.out BK349.out (by decide)) (fun _ hk => hk.2) (.int .i64 t346)) (fun _ hk => hk.2) (.int .i64 t347)) (fun _ hk => ⟨hk.1.1, ⟨hk.1.2.1, ⟨hk.1.2.2.1, hk.1.2.2.2⟩⟩⟩)⟩, ⟨zw⟩, ⟨zw⟩, ⟨zw⟩, ⟨zw⟩, ⟨zw⟩, ⟨zb⟩⟩
      ·rw [if_neg c89] at H; have c89b0 := decide_eq_false c89; clear c89; replace H := zo H; obtain ⟨t350, A154, H⟩ := H; obtain rfl := Option.some.inj H; have hnb155 := NB333_290.out; have hnc155 := NB290_333.out; have hnb156 := NB333_297.out; have hnc156 := NB297_333.out; have hnb157 := NB333_301.out; have hnc157 := NB301_333.out; have hnb158 := NB333_325.out; have hnc158 := NB325_333.out; obtain ⟨hcz159_0, hcz159_1, hcz159_2, hcz159_3⟩ := zc4 BK333; obtain ⟨hfz159_0, hfz159_1, hfz159_2, hfz159_3⟩ := zz4 BK333
       go_wp2_with (first | ((with_reducible refine zG 20 rfl ?_); refine zg 179 Try.func20 ((marginalialaw05_alive.calls  t350 _ A154.out).mono ?_); rintro e w160 ⟨rfl, hb⟩; refine ⟨_, rfl, ?_⟩; replace HO_19 := (zRb HO_19 hb); replace HO_298003 := (zRb HO_298003 hb); replace HO_334003 := (zRb HO_334003 hb); replace BK290 := (zK BK290 hb); replace BK297 := (zK BK297 hb); replace BK301 := (zK BK301 hb); replace BK325 := (zK BK325 hb); replace BK333 := (zK BK333 hb); replace HB := (zB hb); (try clear hb); (try clear hb2); (try clear hk); (try clear hi)))
       go_ret; exact ⟨by first | rfl | (simp [errW_none, errW_some] <;> rfl) | (simp only [← hji8, ← hji9]; first | rfl | (simp [errW_none, errW_some] <;> rfl)) | (simp [*, errW_none, errW_some] <;> rfl), zb⟩
 ·rw [if_neg c6] at H; have c6b0 : (t299 == 0) = false := beq_eq_false_iff_ne.mpr c6; have c6b1 : (t299 != 0) = true := bne_iff_ne.mpr c6; replace H := zo H; obtain ⟨t300, A161, H⟩ := H; obtain rfl := Option.some.inj H; go_enter Try.func10, Try.ntmps10
  go_wp2_with (first | ((with_reducible refine zD 3 rfl ?_); refine zx 3 #[.int .i64 a0_0, .int .i64 a0_1, .string a0_2, .slice A0_3 l0_3.length c0_3] 26 ?_; intro gb290 hg w162 hbox hb; have BK290 := Aside0.mk (hbox); have GW290 := (zq hg : Aside0 (w.heap.size ≤ gb290)); have GE290 := GW290; replace HB := (zB hb); clear hb hbox hg; obtain ⟨hcz163_0, hcz163_1, hcz163_2, hcz163_3⟩ := zc4 BK290; obtain ⟨hfz163_0, hfz163_1, hfz163_2, hfz163_3⟩ := zz4 BK290) | ((with_reducible refine zG 15 rfl ?_); refine zg 29 Try.func15 ((marginalialaw05_cut.calls k a0_0 a0_1 a0_2 _ _ l0_3 t291 t292 t293 t294 _ ?side1 ?side2 A4.out).mono ?_); (case side1 => exact zC HR0_3); (case side2 => exact HC0_3.out); rintro e w164 ⟨v295, rfl, ho0, hb⟩; refine ⟨_, rfl, ?_⟩; have HO296 := Aside0.mk (Kd.R_lower (Kd.R_newB ho0 (g := gb290) (o := .cells #[.int .i64 a0_0, .int .i64 a0_1, .string a0_2, .slice A0_3 l0_3.length c0_3] 26 (0, 0)) (Cl.blk BK290.out)) (below_size zb)); replace BK290 := (zK BK290 hb); replace HB := (zB hb); (try clear hb); (try clear hb2); (try clear hk); (try clear hi); (try clear ho0)) | ((with_reducible refine zD 7 rfl ?_); refine zx 7 #[.int .i64 0, .int .i64 0, .string (⟨#[]⟩ : ByteArray), .slice none 0 0] 26 ?_; intro gb297 hg w165 hbox hb; replace HO296 := Aside0.mk (Kd.R_below (Kd.R_elderB (zR HO296) gb297 (Nat.le_of_eq hg.symm)) hb); have BK297 := Aside0.mk (hbox); have GW297 := (zq hg : Aside0 (w.heap.size ≤ gb297)); have GE297 := GW297; replace HB := (zB hb); have NB290_297 := (zl hg BK290 : Aside0 (gb290 ≠ gb297)); have NB297_290 := (zl' hg BK290 : Aside0 (gb297 ≠ gb290)); replace BK290 := (zK BK290 hb); clear hb hbox hg; have hnb166 := NB297_290.out; have hnc166 := NB290_297.out; obtain ⟨hcz167_0, hcz167_1, hcz167_2, hcz167_3⟩ := zc4 BK297; obtain ⟨hfz167_0, hfz167_1, hfz167_2, hfz167_3⟩ := zz4 BK297; obtain ⟨Ao168, co168, eo168⟩ := Kd.R_slice HO296.out; subst eo168) | ((with_reducible refine zG 27 rfl ?_); refine zg 32 Try.func27 ((tree_Width.calls k t291 t292 t293 _ _ t294 t298 t299 _ ?side1 ?side2 A5.out).mono ?_); (case side1 => refine (Kd.R_reads' (e := 26) (base := w.heap.size) (ok := fun k_ => ((True ∧ k_ ≠ gb290) ∧ k_ ≠ gb297)) (n := t294.length) (c := co168) ?_).2.2; exact (by (with_reducible repeat (first | apply Kd.R_alloc | apply Kd.R_drewN | apply Kd.R_drew)); exact (Kd.R_mono (Kd.R_far (p := ⟨gb297, 3, none⟩) (Kd.R_far (p := ⟨gb297, 2, none⟩) (Kd.R_far (p := ⟨gb297, 1, none⟩) (Kd.R_far (p := ⟨gb297, 0, none⟩) (Kd.R_mono HO296.out (fun k_ hk => (⟨hk, hk.2⟩ : _ ∧ k_ ≠ gb297))) (fun _ hk => hk.2) (.int .i64 t291)) (fun _ hk => hk.2) (.int .i64 t292)) (fun _ hk => hk.2) (.string t293)) (fun _ hk => hk.2) (.slice Ao168 t294.length co168)) (fun _ h_ => h_.1)))); (case side2 => exact (Kd.R_reads' HO296.out).2.1); rintro e w169 ⟨rfl, hb⟩; refine ⟨_, rfl, ?_⟩; replace HO296 := Aside0.mk (Kd.R_below (by (with_reducible repeat (first | apply Kd.R_alloc | apply Kd.R_drewN | apply Kd.R_drew)); exact (Kd.R_mono (Kd.R_far (p := ⟨gb297, 3, none⟩) (Kd.R_far (p := ⟨gb297, 2, none⟩) (Kd.R_far (p := ⟨gb297, 1, none⟩) (Kd.R_far (p := ⟨gb297, 0, none⟩) (Kd.R_mono HO296.out (fun k_ hk => (⟨hk, hk.2⟩ : _ ∧ k_ ≠ gb297))) (fun _ hk => hk.2) (.int .i64 t291)) (fun _ hk => hk.2) (.int .i64 t292)) (fun _ hk => hk.2) (.string t293)) (fun _ hk => hk.2) (.slice Ao168 t294.length co168)) (fun _ h_ => h_.1))) hb); replace BK290 := (zw2 gb290 #[.int .i64 a0_0, .int .i64 a0_1, .string a0_2, .slice A0_3 l0_3.length c0_3] 26 hb); replace BK297 := (zw2 gb297 #[.int .i64 t291, .int .i64 t292, .string t293, .slice Ao168 t294.length co168] 26 hb); replace HB := (zB hb); (try clear hb); (try clear hb2); (try clear hk); (try clear hi)) | ((with_reducible refine zG 20 rfl ?_); refine zg 37 Try.func20 ((marginalialaw05_alive.calls  t300 _ A161.out).mono ?_); rintro e w170 ⟨rfl, hb⟩; refine ⟨_, rfl, ?_⟩; replace HO296 := (zRb HO296 hb); replace BK290 := (zK BK290 hb); replace BK297 := (zK BK297 hb); replace HB := (zB hb); (try clear hb); (try clear hb2); (try clear hk); (try clear hi)))
  go_ret; exact ⟨zr, zb⟩

end Go.Proofs.Ytnafnieocpkkhaa.P

set_option linter.unusedVariables false
set_option linter.unusedSimpArgs false
namespace Go.Proofs.Ytnafnieocpkkhaa.P
open Go Go.RowKit Go.Proofs.Ytnafnieocpkkhaa Go.Proofs.YtnafnieocpkkhaaW.PrintWords Go.Proofs.YtnafnieocpkkhaaW.PrintLast Go.Proofs.YtnafnieocpkkhaaW.PrintMore
theorem mx_nat (a b : Nat) : mx (a : Int) (b : Int) = ((max a b : Nat) : Int) := by unfold mx; (repeat' split) <;> omega
theorem found_loop (n : Nd) (hs : sm n) (hf : fmd n = true) (F T : Nat) (p : List Int) (x : Nd) (o : Nat) (hp : p.length ≤ 1000000) (hx : atp p n = some (x, o)) (hsx : sm x) (hno : ∀ j y, ¬ holds F T o x.f2 j y) : ∀ (r i : Nat), i + r = x.f2.length →
  Ev (fun k => marginalialaw05_TreeFound.l0 k p (i : Int) n.f0 n.f1.f0 n.f1.f1 n.f2 (F : Int) (T : Int) x.f0 x.f1.f0 x.f1.f1 x.f2) true
 | 0, i, hi => by
  refine Ev.shift ?_; simp only [marginalialaw05_TreeFound.l0]; exact Ev.neg (by omega) (Ev.bind1 (a := true) rfl (Ev.now _))
 | r + 1, i, hi => by
  have IH := found_loop n hs hf F T p x o hp hx hsx hno r (i + 1) (by omega); have hl := hsx.len
  obtain ⟨y, hy⟩ : ∃ y, x.f2[i]? = some y := ⟨_, List.getElem?_eq_getElem (by omega)⟩
  have ha := atp_append i hx hy; have hn := hno i y; have hsp := span_ev n (p ++ [(i : Int)]) hs (by simp; omega) hf ha; refine Ev.shift ?_; simp only [marginalialaw05_TreeFound.l0]; rw [w64 (n := (i : Int) + 1) (by omega) (by omega)]; refine Ev.pos (by omega) (Ev.bind1 (a := ([] : List Int)) rfl (Ev.pos (by simp; omega) (Ev.bind1 (a := p) rfl (Ev.bind1 (a := [(i : Int)]) rfl (Ev.pos (by simp; omega) (Ev.bind hsp (Ev.pos rfl ?_))))))); by_cases h1 : ((o + wds (x.f2.take i) : Nat) : Int) ≤ (F : Int)
  ·refine Ev.pos h1 (Ev.neg ?_ (by exact_mod_cast IH)); intro h2; exact hn ⟨hy, by omega, by have h3 : (T : Int) ≤ ((o + wds (x.f2.take i) + wd y : Nat) : Int) := h2; omega⟩
  ·exact Ev.neg h1 (by exact_mod_cast IH)
theorem found_j0 (n : Nd) (hs : sm n) (hf : fmd n = true) (F T : Nat) (hFT : F ≤ T) (hT : T ≤ wd n) :
  Ev (fun k => marginalialaw05_TreeFound.j0 k n.f0 n.f1.f0 n.f1.f1 n.f2 (F : Int) (T : Int)) true := by
 obtain ⟨p, x, o, hx, h1, h2, hno, hpl, hC⟩ := Cover_ev n hs hf F T hFT hT; refine Ev.shift ?_; simp only [marginalialaw05_TreeFound.j0]; refine Ev.bind (And.left hC) (Ev.bind (span_ev n p hs (by omega) hf hx) (Ev.bind (At_ev n p hs (by omega) hf hx) (Ev.pos rfl (Ev.pos rfl (Ev.pos rfl (Ev.neg (by show ¬ ((o : Int) > (F : Int)); omega) (Ev.neg (by show ¬ (((o + wd x : Nat) : Int) < (T : Int)); omega) ?_))))))); exact found_loop n hs hf F T p x o hpl hx (atp_sm hs hx).1 hno x.f2.length 0 (by omega)
theorem found_ev (n0 : Nd) (a b : Int) (ha : 0 ≤ a) (ha' : a ≤ 65535) (hb : 0 ≤ b) (hb' : b ≤ 65535) :
  Ev (fun k => marginalialaw05_TreeFound.f k n0.f0 n0.f1.f0 n0.f1.f1 n0.f2 a b) true := by
 obtain ⟨n, hn, hn1, hn2⟩ := lawcut_ev n0
 have hs : sm n := ⟨by omega, by omega⟩
 unfold marginalialaw05_TreeFound.f; have hW := Width_ev n hs; by_cases hf : fmd n = true
 ·rw [if_pos hf] at hW
  have hm : ∀ c : Int, 0 ≤ c → c ≤ 65535 → ∃ F : Nat, Int.tmod (wrap64 c) (wrap64 ((wd n : Int) + 1)) = (F : Int) ∧ F ≤ wd n := by
   intro c h0 h1; rw [w64 (by omega) (by omega), w64 (by omega) (by omega), Int.tmod_eq_emod_of_nonneg h0]; have h2 := Int.emod_nonneg c (show ((wd n : Int) + 1) ≠ 0 by omega); have h3 := Int.emod_lt_of_pos c (show 0 < ((wd n : Int) + 1) by omega); exact ⟨(c % ((wd n : Int) + 1)).toNat, by omega, by omega⟩
  obtain ⟨F, hF, hF1⟩ := hm a ha ha'; obtain ⟨T, hT, hT1⟩ := hm b hb hb'; have hj := found_j0 n hs hf (min F T) (max F T) (by omega) (by omega); refine Ev.bind hn (Ev.bind hW (Ev.pos rfl (Ev.neg (by show ¬ (wrap64 ((wd n : Int) + 1) = 0); rw [w64 (by omega) (by omega)]; omega) ?_))); simp only [hF, hT, mn_nat, mx_nat]; by_cases h1 : F < wd n
  ·obtain ⟨p, x, o, hx, hx1, h2, h3, hpl, hFe⟩ := Find_ev n hs hf F (by omega) (by omega); refine Ev.pos (by omega) (Ev.bind (And.left hFe) (Ev.bind (span_ev n p hs (by omega) hf hx) (Ev.bind (At_ev n p hs (by omega) hf hx) (Ev.pos rfl (Ev.pos rfl (Ev.pos rfl (Ev.pos hx1 (Ev.neg (by show ¬ ((o : Int) > (F : Int)); omega) (Ev.neg (by show ¬ (((o + wd x : Nat) : Int) ≤ (F : Int)); omega) hj)))))))))
  ·exact Ev.neg (by omega) hj
 ·rw [if_neg hf] at hW; exact Ev.bind hn (Ev.bind hW (Ev.neg (by show ¬ ((4 : Int) = 0); omega) (Ev.bind1 (a := true) rfl (Ev.now _))))
theorem found_walk (n0 : Nd) (A0 : Option Addr) (c0 : Nat) (a b : Int) (w : World) (ha : 0 ≤ a ∧ a ≤ 65535) (hb : 0 ≤ b ∧ b ≤ 65535) (hr : Kd.C k26 w A0 n0.f2.length n0.f2) (hc : n0.f2.length ≤ c0) :
  Calls Try.prog 10 #[.agg #[.int .i64 n0.f0, .int .i64 n0.f1.f0, .string n0.f1.f1, .slice A0 n0.f2.length c0], .int .u16 a, .int .u16 b] w fun e w' => e = .returned (.bool true) ∧ Below w.heap.size w w' := by
 obtain ⟨k, hk⟩ := Ev.rounds (found_ev n0 a b ha.1 ha.2 hb.1 hb.2); exact marginalialaw05_TreeFound.calls k n0.f0 n0.f1.f0 n0.f1.f1 A0 c0 n0.f2 a b true w hr hc hk
end Go.Proofs.Ytnafnieocpkkhaa.P

