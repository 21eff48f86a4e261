/- What the claim's row needs of the seat's texts, part 3: put together by a program of this session (declarations that no text of the claim names are left out). -/

import Derived.Test.YtahcpappailjgaaH2
namespace Go.Proofs.Ytahcpappailjgaa.P
open Go.RowKit Go.Proofs.YtahcpappailjgaaW.PrintWords Go.Proofs.YtahcpappailjgaaW.PrintLast Go.Proofs.YtahcpappailjgaaW.PrintMore
attribute [local go_sem] max2_int min2_int max_two min_two max_three min_three max_four min_four
set_option linter.unusedVariables false
set_option linter.unusedSimpArgs false

attribute [local go_sem high] eqA59
/-! ### relex_Common: function 21 -/
mutual
def relex_Common.j1 : Nat → List (S59) → List (S59) → Int → Option (Int × Int × Int)
 | 0, _, _, _ => none
 | k + 1, x0, x1, x7 => relex_Common.l1 k x0 x1 x7 0
def relex_Common.l1 : Nat → List (S59) → List (S59) → Int → Int → Option (Int × Int × Int)
 | 0, _, _, _, _ => none
 | k + 1, x0, x1, x7, x8 => if x8 < (wrap64 ((mn (x0.length : Int) (x1.length : Int)) - x7)) then (if 0 ≤ (wrap64 ((wrap64 ((x0.length : Int) - 1)) - x8)) then (if (wrap64 ((wrap64 ((x0.length : Int) - 1)) - x8)) < (x0.length : Int) then (if 0 ≤ (wrap64 ((wrap64 ((x1.length : Int) - 1)) - x8)) then (if (wrap64 ((wrap64 ((x1.length : Int) - 1)) - x8)) < (x1.length : Int) then (if (((rd_T59 x0 (wrap64 ((wrap64 ((x0.length : Int) - 1)) - x8))).f0) == ((rd_T59 x1 (wrap64 ((wrap64 ((x1.length : Int) - 1)) - x8))).f0) && ((((rd_T59 x0 (wrap64 ((wrap64 ((x0.length : Int) - 1)) - x8))).f1).toList) == (((rd_T59 x1 (wrap64 ((wrap64 ((x1.length : Int) - 1)) - x8))).f1).toList))) = true then (relex_Common.l1 k x0 x1 x7 (wrap64 (x8 + 1))) else (some (x7, x8, 0))) else (none)) else (none)) else (none)) else (none)) else (some (x7, x8, 0))
def relex_Common.l0 : Nat → List (S59) → List (S59) → Int → Option (Int × Int × Int)
 | 0, _, _, _ => none
 | k + 1, x0, x1, x7 => if x7 < (mn (x0.length : Int) (x1.length : Int)) then (if 0 ≤ x7 then (if x7 < (x0.length : Int) then (if x7 < (x1.length : Int) then (if (((rd_T59 x0 x7).f0) == ((rd_T59 x1 x7).f0) && ((((rd_T59 x0 x7).f1).toList) == (((rd_T59 x1 x7).f1).toList))) = true then (relex_Common.l0 k x0 x1 (wrap64 (x7 + 1))) else (relex_Common.j1 k x0 x1 x7)) else (none)) else (none)) else (none)) else (relex_Common.j1 k x0 x1 x7)
end
def relex_Common.f (k : Nat) (l0 : List (S59)) (l1 : List (S59)) : Option (Int × Int × Int) := if (mx (l0.length : Int) (l1.length : Int)) > 20000 then (some (0, 0, 3)) else (relex_Common.l0 k l0 l1 0)
theorem relex_Common.mono_l : ∀ k, (∀ y0 y1 y2, LeO (relex_Common.j1 k y0 y1 y2) (relex_Common.j1 (k + 1) y0 y1 y2)) ∧ (∀ y0 y1 y2 y3, LeO (relex_Common.l1 k y0 y1 y2 y3) (relex_Common.l1 (k + 1) y0 y1 y2 y3)) ∧ (∀ y0 y1 y2, LeO (relex_Common.l0 k y0 y1 y2) (relex_Common.l0 (k + 1) y0 y1 y2))
 | 0 => ⟨fun _ _ _ r h => by simp [relex_Common.j1] at h, fun _ _ _ _ r h => by simp [relex_Common.l1] at h, fun _ _ _ r h => by simp [relex_Common.l0] at h⟩
 | k + 1 => by
  obtain ⟨ih0, ih1, ih2⟩ := relex_Common.mono_l k; refine ⟨?_, ?_, ?_⟩
  (intro y0 y1 y2; unfold relex_Common.j1); rotate_left
  (intro y0 y1 y2 y3; unfold relex_Common.l1); rotate_left
  (intro y0 y1 y2; unfold relex_Common.l0); rotate_left
  all_goals repeat' first | (with_reducible exact ih0 _ _ _) | (with_reducible exact ih1 _ _ _ _) | (with_reducible exact ih2 _ _ _) | (with_reducible exact LeO.refl _) | (with_reducible exact LeO.none _) | (with_reducible refine LeO.ite ?_ ?_) | (with_reducible refine LeO.bind ?_ (fun _ => ?_)) | exact ih0 _ _ _ | exact ih1 _ _ _ _ | exact ih2 _ _ _ | exact LeO.none _ | refine LeO.ite ?_ ?_ | refine LeO.bind ?_ (fun _ => ?_)
theorem relex_Common.mono : ∀ a0 a1 k, LeO (relex_Common.f k a0 a1) (relex_Common.f (k + 1) a0 a1) := by
 intro a0 a1 k; obtain ⟨ih0, ih1, ih2⟩ := relex_Common.mono_l k; unfold relex_Common.f
 repeat' first
   | (with_reducible exact ih0 _ _ _)
   | (with_reducible exact ih1 _ _ _ _)
   | (with_reducible exact ih2 _ _ _)
   | (with_reducible exact LeO.refl _)
   | (with_reducible exact LeO.none _)
   | (with_reducible refine LeO.ite ?_ ?_)
   | (with_reducible refine LeO.bind ?_ (fun _ => ?_))
   | exact ih0 _ _ _
   | exact ih1 _ _ _ _
   | exact ih2 _ _ _
   | exact LeO.none _
   | refine LeO.ite ?_ ?_
   | refine LeO.bind ?_ (fun _ => ?_)
set_option maxHeartbeats 8000000 in
set_option maxRecDepth 100000 in
theorem relex_Common.calls (k : Nat) (A0 : Option Addr) (c0 : Nat) (l0 : List (S59)) (A1 : Option Addr) (c1 : Nat) (l1 : List (S59)) (r1 : Int) (r2 : Int) (r3 : Int) (w : World) (hr0 : Kd.C k59 w A0 l0.length l0) (hc0 : l0.length ≤ c0) (hr1 : Kd.C k59 w A1 l1.length l1) (hc1 : l1.length ≤ c1) (h : relex_Common.f k l0 l1 = some (r1, r2, r3)) :
  Calls Try.prog 21 #[.slice A0 l0.length c0, .slice A1 l1.length c1] w fun e w' => e = .returned (.tuple #[.int .i64 r1, .int .i64 r2, .int .i64 r3]) ∧ Below w.heap.size w w' := by
 have hu59 := Try.underlying59; have HR0 := Aside0.mk hr0; have HC0 := Aside0.mk hc0; clear hr0 hc0; have HR1 := Aside0.mk hr1; have HC1 := Aside0.mk hc1; clear hr1 hc1; have HB := Aside0.mk (Below.refl w.heap.size w); have H : (if (mx (l0.length : Int) (l1.length : Int)) > 20000 then (some (0, 0, 3)) else (relex_Common.l0 k l0 l1 0)) = some (r1, r2, r3) := h; clear h
 obtain ⟨ji3, hji3⟩ : ∃ j_ : Int, (mx (l0.length : Int) (l1.length : Int)) = j_ := ⟨_, rfl⟩
 replace H : (if (ji3) > 20000 then (some (0, 0, 3)) else (relex_Common.l0 k l0 l1 0)) = some (r1, r2, r3) := by first | (rw [hji3] at H; exact H) | (simp only [hji3] at H ⊢; exact H)
 (try (have hji3l : 0 ≤ ji3 := by (rw [← hji3]; unfold mx; (repeat' split) <;> omega)))
 (try (have hji3m : 0 ≤ ji3 := by omega))
 have hji3_ : (if (l0.length : Int) < (l1.length : Int) then (l1.length : Int) else (l0.length : Int)) = ji3 := hji3
 have hji3n : (if l0.length < l1.length then (l1.length : Int) else (l0.length : Int)) = ji3 := (by rw [← hji3]; unfold mx; (repeat' split) <;> omega)
 by_cases c4 : (ji3) > 20000
 ·rw [if_pos c4] at H; have c4b0 := decide_eq_true c4; clear c4; simp only [Option.some.injEq, Prod.mk.injEq] at H; obtain ⟨rfl, rfl, rfl⟩ := H; go_enter Try.func21, Try.ntmps21; go_wp2
  repeat (go_quiet (fail); try go_wp2)
  go_ret3
  exact ⟨by first | rfl | (simp [errW_none, errW_some] <;> rfl) | (simp only [← hji3]; first | rfl | (simp [errW_none, errW_some] <;> rfl)) | (simp [*, errW_none, errW_some] <;> rfl), zb⟩
 ·rw [if_neg c4] at H; have c4b0 := decide_eq_false c4; clear c4; have HC5 := Aside0.mk H; clear H; go_enter Try.func21, Try.ntmps21
  go_upto_block 0 with (fail)
  repeat (go_quiet (fail); go_upto_block 0 with (fail))
  go_cut [7] (fun v7 wc => ∃ (kq : Nat) (x7_4 : Int), v7 = .int .i64 x7_4 ∧ Aside0 (relex_Common.j1 kq l0 l1 x7_4 = some (r1, r2, r3)) ∧ Aside0 (kq ≤ k) ∧ Aside0 (Below w.heap.size w wc))
  case first =>
   have H := HC5.out; clear HC5; have H' := Aside0.mk H; clear H; go_wp2
   repeat (go_quiet (fail); try go_wp2)
   go_loopg [7] k (fun kq v7 w' => ∃ (x7_1 : Int), v7 = .int .i64 x7_1 ∧ Aside0 (relex_Common.l0 kq l0 l1 x7_1 = some (r1, r2, r3)) ∧ Aside0 (kq ≤ k) ∧ Aside0 (Below w.heap.size w w'))
   case atStart => exact ⟨(0), zs, H', ⟨Nat.le_refl _⟩, ⟨zb⟩⟩
   case round =>
    clear H'; obtain ⟨x7_1, rfl, HA, HK1, HB⟩ := hrel
    cases gk with
    | zero => exact absurd HA.out (by simp [relex_Common.l0])
    | succ k1 =>
     have H := HA.out; clear HA; simp only [relex_Common.l0] at H
     obtain ⟨ji6, hji6⟩ : ∃ j_ : Int, (mn (l0.length : Int) (l1.length : Int)) = j_ := ⟨_, rfl⟩
     replace H : (if x7_1 < (ji6) then (if 0 ≤ x7_1 then (if x7_1 < (l0.length : Int) then (if x7_1 < (l1.length : Int) then (if (((rd_T59 l0 x7_1).f0) == ((rd_T59 l1 x7_1).f0) && ((((rd_T59 l0 x7_1).f1).toList) == (((rd_T59 l1 x7_1).f1).toList))) = true then (relex_Common.l0 k1 l0 l1 (wrap64 (x7_1 + 1))) else (relex_Common.j1 k1 l0 l1 x7_1)) else (none)) else (none)) else (none)) else (relex_Common.j1 k1 l0 l1 x7_1)) = some (r1, r2, r3) := by first | (rw [hji6] at H; exact H) | (simp only [hji6] at H ⊢; exact H)
     have hji6_ : (if (l1.length : Int) < (l0.length : Int) then (l1.length : Int) else (l0.length : Int)) = ji6 := hji6
     have hji6n : (if l1.length < l0.length then (l1.length : Int) else (l0.length : Int)) = ji6 := (by rw [← hji6]; unfold mn; (repeat' split) <;> omega)
     by_cases c7 : x7_1 < (ji6)
     ·rw [if_pos c7] at H; have c7b0 := decide_eq_true c7; clear c7
      (first | rw [c7b0] | (simp only [i64_w, i32_w]; rw [c7b0]) | skip)
      replace H := zi1 H; obtain ⟨c8b0, H⟩ := H; replace H := zi1 H; obtain ⟨c9b0, H⟩ := H; replace H := zi1 H; obtain ⟨c10b0, H⟩ := H; by_cases c11 : (((rd_T59 l0 x7_1).f0) == ((rd_T59 l1 x7_1).f0) && ((((rd_T59 l0 x7_1).f1).toList) == (((rd_T59 l1 x7_1).f1).toList))) = true
      ·rw [if_pos c11] at H; have c11b0 : (((rd_T59 l0 x7_1).f0) == ((rd_T59 l1 x7_1).f0) && ((((rd_T59 l0 x7_1).f1).toList) == (((rd_T59 l1 x7_1).f1).toList))) = true := c11
       (try (have c11b1 : decide (((rd_T59 l0 x7_1).f0) = ((rd_T59 l1 x7_1).f0) && ((((rd_T59 l0 x7_1).f1).toList) == (((rd_T59 l1 x7_1).f1).toList))) = true := by simpa using c11))
       (try (have c11b2 : (((rd_T59 l0 x7_1).f0) == ((rd_T59 l1 x7_1).f0) && ((((rd_T59 l0 x7_1).f1).toList) == (((rd_T59 l1 x7_1).f1).toList))) = true := by simpa using c11))
       clear c11; have H' := Aside0.mk H; clear H; have p284 : 0 ≤ (x7_1 : Int) := zt; have q284 : x7_1 < (l0.length : Int) := zt; obtain ⟨ad284, e284, hx284_0, hx284_1⟩ := at_T59 HR0.out x7_1 p284 q284
       cases e284
       replace hx284_0 := zh HB hx284_0; replace hx284_1 := zh HB hx284_1; replace p284 := eq_true p284; replace q284 := eq_true q284; have p285 : 0 ≤ (x7_1 : Int) := zt; have q285 : x7_1 < (l1.length : Int) := zt; obtain ⟨ad285, e285, hx285_0, hx285_1⟩ := at_T59 HR1.out x7_1 p285 q285
       cases e285
       replace hx285_0 := zh HB hx285_0; replace hx285_1 := zh HB hx285_1; replace p285 := eq_true p285; replace q285 := eq_true q285; go_wp2
       repeat (go_quiet (fail); try go_wp2)
       go_roundg k1
       case measure => have := HK1.out; omega
       case rel => exact ⟨(wrap64 (x7_1 + 1)), zs, H', zk, ⟨zb⟩⟩
      ·rw [if_neg c11] at H
       have c11b0 : (((rd_T59 l0 x7_1).f0) == ((rd_T59 l1 x7_1).f0) && ((((rd_T59 l0 x7_1).f1).toList) == (((rd_T59 l1 x7_1).f1).toList))) = false := (by simpa using c11)
       (try (have c11b1 : decide (((rd_T59 l0 x7_1).f0) = ((rd_T59 l1 x7_1).f0) && ((((rd_T59 l0 x7_1).f1).toList) == (((rd_T59 l1 x7_1).f1).toList))) = false := by simpa using c11))
       (try (have c11b2 : (((rd_T59 l0 x7_1).f0) == ((rd_T59 l1 x7_1).f0) && ((((rd_T59 l0 x7_1).f1).toList) == (((rd_T59 l1 x7_1).f1).toList))) = false := by simpa using c11))
       (try (have c11b3 : ¬ (((rd_T59 l0 x7_1).f0) = ((rd_T59 l1 x7_1).f0) && ((((rd_T59 l0 x7_1).f1).toList) == (((rd_T59 l1 x7_1).f1).toList))) := by simpa using c11))
       clear c11; have H' := Aside0.mk H; clear H; have p284 : 0 ≤ (x7_1 : Int) := zt; have q284 : x7_1 < (l0.length : Int) := zt; obtain ⟨ad284, e284, hx284_0, hx284_1⟩ := at_T59 HR0.out x7_1 p284 q284
       cases e284
       replace hx284_0 := zh HB hx284_0; replace hx284_1 := zh HB hx284_1; replace p284 := eq_true p284; replace q284 := eq_true q284; have p285 : 0 ≤ (x7_1 : Int) := zt; have q285 : x7_1 < (l1.length : Int) := zt; obtain ⟨ad285, e285, hx285_0, hx285_1⟩ := at_T59 HR1.out x7_1 p285 q285
       cases e285
       replace hx285_0 := zh HB hx285_0; replace hx285_1 := zh HB hx285_1; replace p285 := eq_true p285; replace q285 := eq_true q285; go_wp2
       repeat (go_quiet (fail); try go_wp2)
       go_meet
       case rel => exact ⟨_, (x7_1), zs, H', zk, ⟨zb⟩⟩
     ·rw [if_neg c7] at H; have c7b0 := decide_eq_false c7; clear c7
      (first | rw [c7b0] | (simp only [i64_w, i32_w]; rw [c7b0]) | skip)
      have H' := Aside0.mk H; clear H; go_wp2
      repeat (go_quiet (fail); try go_wp2)
      go_meet
      case rel => exact ⟨_, (x7_1), zs, H', zk, ⟨zb⟩⟩
  case rest =>
   clear HC5; obtain ⟨kq, x7_4, rfl, HA, HJ4, HB⟩ := hcut
   cases kq with
   | zero => exact absurd HA.out (by simp [relex_Common.j1])
   | succ kj4 =>
    have H := HA.out; clear HA; simp only [relex_Common.j1] at H; have H' := Aside0.mk H; clear H; go_wp2
    repeat (go_quiet (fail); try go_wp2)
    go_loopg [8] kj4 (fun kq v8 w' => ∃ (x8_2 : Int), v8 = .int .i64 x8_2 ∧ Aside0 (relex_Common.l1 kq l0 l1 x7_4 x8_2 = some (r1, r2, r3)) ∧ Aside0 (kq ≤ kj4) ∧ Aside0 (Below w.heap.size w w'))
    case atStart => exact ⟨(0), zs, H', ⟨Nat.le_refl _⟩, ⟨zb⟩⟩
    case round =>
     clear H'; obtain ⟨x8_2, rfl, HA, HK2, HB⟩ := hrel
     cases gk with
     | zero => exact absurd HA.out (by simp [relex_Common.l1])
     | succ k2 =>
      have H := HA.out; clear HA; simp only [relex_Common.l1] at H
      obtain ⟨ji12, hji12⟩ : ∃ j_ : Int, (mn (l0.length : Int) (l1.length : Int)) = j_ := ⟨_, rfl⟩
      replace H : (if x8_2 < (wrap64 ((ji12) - x7_4)) then (if 0 ≤ (wrap64 ((wrap64 ((l0.length : Int) - 1)) - x8_2)) then (if (wrap64 ((wrap64 ((l0.length : Int) - 1)) - x8_2)) < (l0.length : Int) then (if 0 ≤ (wrap64 ((wrap64 ((l1.length : Int) - 1)) - x8_2)) then (if (wrap64 ((wrap64 ((l1.length : Int) - 1)) - x8_2)) < (l1.length : Int) then (if (((rd_T59 l0 (wrap64 ((wrap64 ((l0.length : Int) - 1)) - x8_2))).f0) == ((rd_T59 l1 (wrap64 ((wrap64 ((l1.length : Int) - 1)) - x8_2))).f0) && ((((rd_T59 l0 (wrap64 ((wrap64 ((l0.length : Int) - 1)) - x8_2))).f1).toList) == (((rd_T59 l1 (wrap64 ((wrap64 ((l1.length : Int) - 1)) - x8_2))).f1).toList))) = true then (relex_Common.l1 k2 l0 l1 x7_4 (wrap64 (x8_2 + 1))) else (some (x7_4, x8_2, 0))) else (none)) else (none)) else (none)) else (none)) else (some (x7_4, x8_2, 0))) = some (r1, r2, r3) := by first | (rw [hji12] at H; exact H) | (simp only [hji12] at H ⊢; exact H)
      have hji12_ : (if (l1.length : Int) < (l0.length : Int) then (l1.length : Int) else (l0.length : Int)) = ji12 := hji12
      have hji12n : (if l1.length < l0.length then (l1.length : Int) else (l0.length : Int)) = ji12 := (by rw [← hji12]; unfold mn; (repeat' split) <;> omega)
      by_cases c13 : x8_2 < (wrap64 ((ji12) - x7_4))
      ·rw [if_pos c13] at H; have c13b0 := decide_eq_true c13; clear c13
       obtain ⟨ji14, hji14⟩ : ∃ j_ : Int, (wrap64 ((wrap64 ((l0.length : Int) - 1)) - x8_2)) = j_ := ⟨_, rfl⟩
       replace H : (if 0 ≤ (ji14) then (if (ji14) < (l0.length : Int) then (if 0 ≤ (wrap64 ((wrap64 ((l1.length : Int) - 1)) - x8_2)) then (if (wrap64 ((wrap64 ((l1.length : Int) - 1)) - x8_2)) < (l1.length : Int) then (if (((rd_T59 l0 (ji14)).f0) == ((rd_T59 l1 (wrap64 ((wrap64 ((l1.length : Int) - 1)) - x8_2))).f0) && ((((rd_T59 l0 (ji14)).f1).toList) == (((rd_T59 l1 (wrap64 ((wrap64 ((l1.length : Int) - 1)) - x8_2))).f1).toList))) = true then (relex_Common.l1 k2 l0 l1 x7_4 (wrap64 (x8_2 + 1))) else (some (x7_4, x8_2, 0))) else (none)) else (none)) else (none)) else (none)) = some (r1, r2, r3) := by first | (rw [hji14] at H; exact H) | (simp only [hji14] at H ⊢; exact H)
       have hji14w : (IntKind.i64.wrap ((wrap64 ((l0.length : Int) - 1)) - x8_2)) = ji14 := (i64_w _).trans hji14; replace H := zi1 H; obtain ⟨c15b0, H⟩ := H; replace H := zi1 H; obtain ⟨c16b0, H⟩ := H
       obtain ⟨ji17, hji17⟩ : ∃ j_ : Int, (wrap64 ((wrap64 ((l1.length : Int) - 1)) - x8_2)) = j_ := ⟨_, rfl⟩
       replace H : (if 0 ≤ (ji17) then (if (ji17) < (l1.length : Int) then (if (((rd_T59 l0 (ji14)).f0) == ((rd_T59 l1 (ji17)).f0) && ((((rd_T59 l0 (ji14)).f1).toList) == (((rd_T59 l1 (ji17)).f1).toList))) = true then (relex_Common.l1 k2 l0 l1 x7_4 (wrap64 (x8_2 + 1))) else (some (x7_4, x8_2, 0))) else (none)) else (none)) = some (r1, r2, r3) := by first | (rw [hji17] at H; exact H) | (simp only [hji17] at H ⊢; exact H)
       have hji17w : (IntKind.i64.wrap ((wrap64 ((l1.length : Int) - 1)) - x8_2)) = ji17 := (i64_w _).trans hji17; replace H := zi1 H; obtain ⟨c18b0, H⟩ := H; replace H := zi1 H; obtain ⟨c19b0, H⟩ := H; by_cases c20 : (((rd_T59 l0 (ji14)).f0) == ((rd_T59 l1 (ji17)).f0) && ((((rd_T59 l0 (ji14)).f1).toList) == (((rd_T59 l1 (ji17)).f1).toList))) = true
       ·rw [if_pos c20] at H; have c20b0 : (((rd_T59 l0 (ji14)).f0) == ((rd_T59 l1 (ji17)).f0) && ((((rd_T59 l0 (ji14)).f1).toList) == (((rd_T59 l1 (ji17)).f1).toList))) = true := c20
        (try (have c20b1 : decide (((rd_T59 l0 (ji14)).f0) = ((rd_T59 l1 (ji17)).f0) && ((((rd_T59 l0 (ji14)).f1).toList) == (((rd_T59 l1 (ji17)).f1).toList))) = true := by simpa using c20))
        (try (have c20b2 : (((rd_T59 l0 (ji14)).f0) == ((rd_T59 l1 (ji17)).f0) && ((((rd_T59 l0 (ji14)).f1).toList) == (((rd_T59 l1 (ji17)).f1).toList))) = true := by simpa using c20))
        clear c20; have H' := Aside0.mk H; clear H; have p286 : 0 ≤ ((ji14) : Int) := zt; have q286 : (ji14) < (l0.length : Int) := zt; obtain ⟨ad286, e286, hx286_0, hx286_1⟩ := at_T59 HR0.out (ji14) p286 q286
        cases e286
        replace hx286_0 := zh HB hx286_0; replace hx286_1 := zh HB hx286_1; replace p286 := eq_true p286; replace q286 := eq_true q286; have p287 : 0 ≤ ((ji17) : Int) := zt; have q287 : (ji17) < (l1.length : Int) := zt; obtain ⟨ad287, e287, hx287_0, hx287_1⟩ := at_T59 HR1.out (ji17) p287 q287
        cases e287
        replace hx287_0 := zh HB hx287_0; replace hx287_1 := zh HB hx287_1; replace p287 := eq_true p287; replace q287 := eq_true q287; go_wp2
        repeat (go_quiet (fail); try go_wp2)
        go_roundg k2
        case measure => have := HJ4.out; have := HK2.out; omega
        case rel => exact ⟨(wrap64 (x8_2 + 1)), zs, H', ⟨by have := HJ4.out; have := HK2.out; omega⟩, ⟨zb⟩⟩
       ·rw [if_neg c20] at H
        have c20b0 : (((rd_T59 l0 (ji14)).f0) == ((rd_T59 l1 (ji17)).f0) && ((((rd_T59 l0 (ji14)).f1).toList) == (((rd_T59 l1 (ji17)).f1).toList))) = false := (by simpa using c20)
        (try (have c20b1 : decide (((rd_T59 l0 (ji14)).f0) = ((rd_T59 l1 (ji17)).f0) && ((((rd_T59 l0 (ji14)).f1).toList) == (((rd_T59 l1 (ji17)).f1).toList))) = false := by simpa using c20))
        (try (have c20b2 : (((rd_T59 l0 (ji14)).f0) == ((rd_T59 l1 (ji17)).f0) && ((((rd_T59 l0 (ji14)).f1).toList) == (((rd_T59 l1 (ji17)).f1).toList))) = false := by simpa using c20))
        (try (have c20b3 : ¬ (((rd_T59 l0 (ji14)).f0) = ((rd_T59 l1 (ji17)).f0) && ((((rd_T59 l0 (ji14)).f1).toList) == (((rd_T59 l1 (ji17)).f1).toList))) := by simpa using c20))
        clear c20; simp only [Option.some.injEq, Prod.mk.injEq] at H; obtain ⟨rfl, rfl, rfl⟩ := H; have p286 : 0 ≤ ((ji14) : Int) := zt; have q286 : (ji14) < (l0.length : Int) := zt; obtain ⟨ad286, e286, hx286_0, hx286_1⟩ := at_T59 HR0.out (ji14) p286 q286
        cases e286
        replace hx286_0 := zh HB hx286_0; replace hx286_1 := zh HB hx286_1; replace p286 := eq_true p286; replace q286 := eq_true q286; have p287 : 0 ≤ ((ji17) : Int) := zt; have q287 : (ji17) < (l1.length : Int) := zt; obtain ⟨ad287, e287, hx287_0, hx287_1⟩ := at_T59 HR1.out (ji17) p287 q287
        cases e287
        replace hx287_0 := zh HB hx287_0; replace hx287_1 := zh HB hx287_1; replace p287 := eq_true p287; replace q287 := eq_true q287; go_wp2
        repeat (go_quiet (fail); try go_wp2)
        go_ret3
        exact ⟨by first | rfl | (simp [errW_none, errW_some] <;> rfl) | (simp only [← hji3, ← hji12, ← hji14, ← hji17]; first | rfl | (simp [errW_none, errW_some] <;> rfl)) | (simp [*, errW_none, errW_some] <;> rfl), zb⟩
      ·rw [if_neg c13] at H; have c13b0 := decide_eq_false c13; clear c13; simp only [Option.some.injEq, Prod.mk.injEq] at H; obtain ⟨rfl, rfl, rfl⟩ := H; go_wp2
       repeat (go_quiet (fail); try go_wp2)
       go_ret3
       exact ⟨by first | rfl | (simp [errW_none, errW_some] <;> rfl) | (simp only [← hji3, ← hji12]; first | rfl | (simp [errW_none, errW_some] <;> rfl)) | (simp [*, errW_none, errW_some] <;> rfl), zb⟩

/-! ### rope_Invert: function 28 -/
def rope_Invert.l0 : Nat → ByteArray → List (S39) → Int → List (S39) → Int → Int → Option ((List (S39)) × Int)
 | 0, _, _, _, _, _, _ => none
 | k + 1, x0, x7, x8, x17, x18, x19 => if x19 < x18 then (if 0 ≤ x19 then (if x19 < (x17.length : Int) then (if 0 ≤ ((rd_T39 x17 x19).f0) then (if ((rd_T39 x17 x19).f0) ≤ ((rd_T39 x17 x19).f1) then (if ((rd_T39 x17 x19).f1) ≤ (x0.size : Int) then (if x7.length < 4398046511104 then (rope_Invert.l0 k x0 (x7 ++ [(⟨wrap64 (((rd_T39 x17 x19).f0) + x8), wrap64 ((wrap64 (((rd_T39 x17 x19).f0) + x8)) + (((rd_T39 x17 x19).f2).size : Int)), x0.extract (((rd_T39 x17 x19).f0) : Int).toNat (((rd_T39 x17 x19).f1) : Int).toNat⟩ : S39)]) (wrap64 (x8 + (wrap64 ((((rd_T39 x17 x19).f2).size : Int) - (wrap64 (((rd_T39 x17 x19).f1) - ((rd_T39 x17 x19).f0))))))) x17 x18 (wrap64 (x19 + 1))) else (none)) else (none)) else (none)) else (none)) else (none)) else (none)) else (some (x7, 0))
def rope_Invert.f (k : Nat) (a0 : ByteArray) (l1 : List (S39)) : Option ((List (S39)) × Int) := (rope_Check.f k a0 l1).bind fun t288 => (if t288 = 0 then (rope_Invert.l0 k a0 ([] : List (S39)) 0 l1 (l1.length : Int) 0) else (some (([] : List (S39)), t288)))
theorem rope_Invert.mono_l : ∀ k, (∀ y0 y1 y2 y3 y4 y5, LeO (rope_Invert.l0 k y0 y1 y2 y3 y4 y5) (rope_Invert.l0 (k + 1) y0 y1 y2 y3 y4 y5))
 | 0 => fun _ _ _ _ _ _ r h => by simp [rope_Invert.l0] at h
 | k + 1 => by
  have ih0 := rope_Invert.mono_l k
  (intro y0 y1 y2 y3 y4 y5; unfold rope_Invert.l0); rotate_left
  all_goals repeat' first | (with_reducible exact ih0 _ _ _ _ _ _) | (with_reducible exact rope_Check.mono _ _ _) | (with_reducible exact LeO.refl _) | (with_reducible exact LeO.none _) | (with_reducible refine LeO.ite ?_ ?_) | (with_reducible refine LeO.bind ?_ (fun _ => ?_)) | exact ih0 _ _ _ _ _ _ | exact rope_Check.mono _ _ _ | exact LeO.none _ | refine LeO.ite ?_ ?_ | refine LeO.bind ?_ (fun _ => ?_)
theorem rope_Invert.mono : ∀ a0 a1 k, LeO (rope_Invert.f k a0 a1) (rope_Invert.f (k + 1) a0 a1) := by
 intro a0 a1 k; have ih0 := rope_Invert.mono_l k; unfold rope_Invert.f
 repeat' first
   | (with_reducible exact ih0 _ _ _ _ _ _)
   | (with_reducible exact rope_Check.mono _ _ _)
   | (with_reducible exact LeO.refl _)
   | (with_reducible exact LeO.none _)
   | (with_reducible refine LeO.ite ?_ ?_)
   | (with_reducible refine LeO.bind ?_ (fun _ => ?_))
   | exact ih0 _ _ _ _ _ _
   | exact rope_Check.mono _ _ _
   | exact LeO.none _
   | refine LeO.ite ?_ ?_
   | refine LeO.bind ?_ (fun _ => ?_)
def rope_Invert.T9 : Bool × List (List Nat × List Nat) := (true, [([], []), ([], []), ([1], [1]), ([], []), ([2, 3], [2, 3]), ([], []), ([5], [5]), ([], []), ([6, 7], [6, 7]), ([], []), ([9], [9]), ([10], [10]), ([8, 11], [8, 11]), ([], []), ([], []), ([14], [14]), ([], []), ([16], [16]), ([13, 15, 17], [13, 15, 17]), ([4, 12, 18], [4, 12, 18]), ([19], [19]), ([0, 20], [0, 20]), ([21, 21, 0, 1, 2, 3, 4, 5, 6, 7, 8, 9, 10, 11, 12, 13, 14, 15, 16, 17, 18, 19, 20, 21], [0, 21])])
def rope_Invert.B9 : List Nat := [0, 0, 2, 0, 14, 0, 32, 0, 224, 0, 512, 1536, 4064, 0, 0, 16384, 0, 65536, 253952, 524286, 1048574, 2097151, 4194303]
theorem rope_Invert.tab9 : rtab .any (opsOf Try.f28 9) = rope_Invert.T9 := by kernel_rfl
theorem rope_Invert.bits9 : waitsOk rope_Invert.T9.2 rope_Invert.B9 = true := by kernel_rfl
set_option maxHeartbeats 8000000 in
set_option maxRecDepth 100000 in
theorem rope_Invert.calls (k : Nat) (a0 : ByteArray) (A1 : Option Addr) (c1 : Nat) (l1 : List (S39)) (r1 : List (S39)) (r2 : Int) (w : World) (hr1 : Kd.C k39 w A1 l1.length l1) (hc1 : l1.length ≤ c1) (h : rope_Invert.f k a0 l1 = some (r1, r2)) :
  Calls Try.prog 28 #[.string a0, .slice A1 l1.length c1] w fun e w' => ∃ v0_ : Value, e = .returned (.tuple #[v0_, .int .i64 r2]) ∧ Kd.R k39 39 w' w.heap.size (fun _ => True) v0_ r1 ∧ Below w.heap.size w w' := by
 have hu39 := Try.underlying39; have HR1 := Aside0.mk hr1; have HC1 := Aside0.mk hc1; clear hr1 hc1; have HB := Aside0.mk (Below.refl w.heap.size w); have H : ((rope_Check.f k a0 l1).bind fun t288 => (if t288 = 0 then (rope_Invert.l0 k a0 ([] : List (S39)) 0 l1 (l1.length : Int) 0) else (some (([] : List (S39)), t288)))) = some (r1, r2) := h; clear h; replace H := zo H; obtain ⟨t288, A3, H⟩ := H; by_cases c4 : t288 = 0
 ·rw [if_pos c4] at H; have c4b0 : (t288 == 0) = true := beq_iff_eq.mpr c4; have c4b1 : (t288 != 0) = false := bne_eq_false_iff_eq.mpr c4; clear c4; have H' := Aside0.mk H; clear H; go_enter Try.func28, Try.ntmps28
  go_wp2_with (first | ((with_reducible refine zG 43 rfl ?_); refine zg 13 Try.func43 ((rope_Check.calls k a0 _ _ l1 t288 _ ?side1 ?side2 A3.out).mono ?_); (case side1 => exact zE HR1); (case side2 => exact HC1.out); rintro e w5 ⟨rfl, hb⟩; refine ⟨_, rfl, ?_⟩; replace HB := (zB hb); (try clear hb); (try clear hb2); (try clear hk); (try clear hi)))
  go_loopg [7, 8, 19] k (fun kq v7 v8 v19 w' => ∃ (x7_1 : List (S39)) (x8_1 : Int) (x19_1 : Int), v8 = .int .i64 x8_1 ∧ v19 = .int .i64 x19_1 ∧ Aside0 (rope_Invert.l0 kq a0 x7_1 x8_1 l1 (l1.length : Int) x19_1 = some (r1, r2)) ∧ Aside0 (kq ≤ k) ∧ Aside0 (Kd.R k39 39 w' w.heap.size (fun _ => True) v7 x7_1) ∧ Aside0 (Below w.heap.size w w'))
  case atStart => exact ⟨(([] : List (S39))), (0), (0), zs, zs, H', ⟨Nat.le_refl _⟩, ⟨by first | exact Kd.R_nil _ _ _ _ _ | exact Kd.N_nil _ _ _ _ _ | exact Kd.V_nil _ _ _ _ _ | exact Kd.Q_nil _ _ _ _ _ | exact Kd.S_nil _ _ _ _ _⟩, ⟨zb⟩⟩
  case round =>
   clear H'; obtain ⟨x7_1, x8_1, x19_1, rfl, rfl, HA, HK1, HO_7, HB⟩ := hrel
   cases gk with
   | zero => exact absurd HA.out (by simp [rope_Invert.l0])
   | succ k1 =>
    have H := HA.out; clear HA; simp only [rope_Invert.l0] at H; by_cases c6 : x19_1 < (l1.length : Int)
    ·rw [if_pos c6] at H; have c6b0 := decide_eq_true c6; clear c6; replace H := zi1 H; obtain ⟨c7b0, H⟩ := H; replace H := zi1 H; obtain ⟨c8b0, H⟩ := H; replace H := zi2 H; obtain ⟨c9b0, c9b1, H⟩ := H; replace H := zi2 H; obtain ⟨c10b0, c10b1, H⟩ := H; replace H := zi2 H; obtain ⟨c11b0, c11b1, H⟩ := H; replace H := zi H; obtain ⟨c12, H⟩ := H; have LMc12 := Aside0.mk c12; clear c12
     obtain ⟨y291, hy291⟩ : ∃ y_ : List (S39), y_ = (x7_1 ++ [(⟨wrap64 (((rd_T39 l1 x19_1).f0) + x8_1), wrap64 ((wrap64 (((rd_T39 l1 x19_1).f0) + x8_1)) + (((rd_T39 l1 x19_1).f2).size : Int)), a0.extract (((rd_T39 l1 x19_1).f0) : Int).toNat (((rd_T39 l1 x19_1).f1) : Int).toNat⟩ : S39)]) := ⟨_, rfl⟩
     replace H : (rope_Invert.l0 k1 a0 y291 (wrap64 (x8_1 + (wrap64 ((((rd_T39 l1 x19_1).f2).size : Int) - (wrap64 (((rd_T39 l1 x19_1).f1) - ((rd_T39 l1 x19_1).f0))))))) l1 (l1.length : Int) (wrap64 (x19_1 + 1))) = some (r1, r2) := by first | (rw [hy291]; with_reducible exact H) | (have H2_ := (Option.bind_some _ _).symm.trans H; rw [hy291]; with_reducible exact H2_) | (have H2_ := (Option.bind_some _ _).symm.trans H; with_reducible exact H2_) | with_reducible exact H | (rw [hy291]; exact H) | exact H
     have Ny291 := Aside0.mk hy291; clear hy291; have H' := Aside0.mk H; clear H; have p289 : 0 ≤ (x19_1 : Int) := zt; have q289 : x19_1 < (l1.length : Int) := zt; obtain ⟨ad289, e289, hx289_0, hx289_1, hx289_2⟩ := at_T39 HR1.out x19_1 p289 q289
     cases e289
     replace hx289_0 := zh HB hx289_0; replace hx289_1 := zh HB hx289_1; replace hx289_2 := zh HB hx289_2; replace p289 := eq_true p289; replace q289 := eq_true q289
     try go_wp2_with (first | ((with_reducible refine zD 10 rfl ?_); refine zx 10 #[.int .i64 0, .int .i64 0, .string (⟨#[]⟩ : ByteArray)] 39 ?_; intro gb290 hg w13 hbox hb; replace HO_7 := Aside0.mk (Kd.R_below (Kd.R_elderB (zR HO_7) gb290 (Nat.le_of_eq hg.symm)) hb); have BK290 := Aside0.mk (hbox); have GW290 := (zq hg : Aside0 (w.heap.size ≤ gb290)); have GE290 := GW290; replace HB := (zB hb); clear hb hbox hg; obtain ⟨hcz14_0, hcz14_1, hcz14_2⟩ := zc3 BK290; obtain ⟨hfz14_0, hfz14_1, hfz14_2⟩ := zz3 BK290))
     have n0_ : Aside0 (Kd.R k39 39 (((w13.setCell ⟨gb290, 0, none⟩ (.int .i64 ((rd_T39 l1 x19_1).f0))).setCell ⟨gb290, 1, none⟩ (.int .i64 ((rd_T39 l1 x19_1).f1))).setCell ⟨gb290, 2, none⟩ (.string ((rd_T39 l1 x19_1).f2))) w.heap.size (fun k_ => k_ ≠ gb290) u7 x7_1) := ⟨by (with_reducible repeat (first | apply Kd.R_alloc | apply Kd.R_drewN | apply Kd.R_drew)); exact Kd.R_mono (Kd.R_far (p := ⟨gb290, 2, none⟩) (Kd.R_far (p := ⟨gb290, 1, none⟩) (Kd.R_far (p := ⟨gb290, 0, none⟩) (Kd.R_mono HO_7.out (fun k_ hk => (⟨hk, hk.2⟩ : _ ∧ k_ ≠ gb290))) (fun _ hk => hk.2) (.int .i64 ((rd_T39 l1 x19_1).f0))) (fun _ hk => hk.2) (.int .i64 ((rd_T39 l1 x19_1).f1))) (fun _ hk => hk.2) (.string ((rd_T39 l1 x19_1).f2))) (fun _ hk => hk.1.2)⟩
     have n1_ : Aside0 ((((w13.setCell ⟨gb290, 0, none⟩ (.int .i64 ((rd_T39 l1 x19_1).f0))).setCell ⟨gb290, 1, none⟩ (.int .i64 ((rd_T39 l1 x19_1).f1))).setCell ⟨gb290, 2, none⟩ (.string ((rd_T39 l1 x19_1).f2))).heap[gb290]? = some (.cells #[.int .i64 ((rd_T39 l1 x19_1).f0), .int .i64 ((rd_T39 l1 x19_1).f1), .string ((rd_T39 l1 x19_1).f2)] 39 (0, 0))) := ⟨zw⟩
     have n2_ : Aside0 (Below w.heap.size w (((w13.setCell ⟨gb290, 0, none⟩ (.int .i64 ((rd_T39 l1 x19_1).f0))).setCell ⟨gb290, 1, none⟩ (.int .i64 ((rd_T39 l1 x19_1).f1))).setCell ⟨gb290, 2, none⟩ (.string ((rd_T39 l1 x19_1).f2)))) := ⟨zb⟩
     (try clear HO_7)
     (try clear BK290)
     (try clear HB)
     generalize (((w13.setCell ⟨gb290, 0, none⟩ (.int .i64 ((rd_T39 l1 x19_1).f0))).setCell ⟨gb290, 1, none⟩ (.int .i64 ((rd_T39 l1 x19_1).f1))).setCell ⟨gb290, 2, none⟩ (.string ((rd_T39 l1 x19_1).f2))) = w15 at n0_ n1_ n2_ ⊢; have HO_7 := n0_; have BK290 := n1_; have HB := n2_; clear n0_ n1_ n2_; replace HO_7 := Aside0.mk (Kd.R_drew HO_7.out); replace BK290 := Aside0.mk (blk_drew BK290.out); replace HB := Aside0.mk (below_drew1 HB.out); refine start_ (n := 23) (S := fun w' => w'.cell? ⟨gb290, 0, none⟩ = some (.int .i64 ((rd_T39 l1 x19_1).f0)) ∧ w'.cell? ⟨gb290, 1, none⟩ = some (.int .i64 ((rd_T39 l1 x19_1).f1)) ∧ w'.cell? ⟨gb290, 2, none⟩ = some (.string ((rd_T39 l1 x19_1).f2))) (ds := []) #[false, false, false, false, false, false, false, false, false, false, false, false, false, false, false, false, false, false, false, false, false, false, false] (by kernel_rfl) rfl rfl ⟨(blk_cell BK290.out 0).trans rfl, (blk_cell BK290.out 1).trans rfl, (blk_cell BK290.out 2).trans rfl⟩ (fun hHeld => ?_); refine with_tabW rope_Invert.tab9 rope_Invert.bits9 (fun HT_ HW_ => ?_); generalize w15.drew = w16 at HO_7 BK290 HB hHeld ⊢; refine zp 0 23 HT_ ?_; refine zp 1 24 HT_ ?_; refine zp 3 26 HT_ ?_; refine zp 5 28 HT_ ?_; refine zp 7 30 HT_ ?_; refine zp 9 32 HT_ ?_; refine zp 13 36 HT_ ?_; refine zp 14 37 HT_ ?_; refine zp 16 39 HT_ ?_; refine zy 2 25 HT_ HW_ hHeld ?_; refine zp 4 27 HT_ ?_; refine zy 6 29 HT_ HW_ hHeld ?_; refine zp 8 31 HT_ ?_; refine zy 10 33 HT_ HW_ hHeld ?_; refine zp 11 34 HT_ ?_; refine zp 12 35 HT_ ?_; refine zy 15 38 HT_ HW_ hHeld ?_; refine zy 17 40 HT_ HW_ hHeld ?_; refine zp 18 41 HT_ ?_; refine zp 19 42 HT_ ?_; refine one_ (i := 20) (N := some 43) #[true, true, true, true, true, true, true, true, true, true, true, true, true, true, true, true, true, true, true, true, true, false, false] rfl rfl (one_of HT_.out (by kernel_rfl)) (by decide) (fun K hK => ?_); refine value_ (w1 := ?_) (v := ?_) (by rfl) rfl ?_ ?_; rotate_left 2
     ·go_simp
      constructor
      ·rfl
      ·rfl
     refine hK.out _ _ ⟨(blk_cell (blk_alloc BK290.out _) 0).trans rfl, (blk_cell (blk_alloc BK290.out _) 1).trans rfl, (blk_cell (blk_alloc BK290.out _) 2).trans rfl⟩ (fun hHeld => ?_); clear hK K; refine norm_ (a' := ?_) ?_ ?_; rotate_left
     ·show Act.put _ (some 43) _ = _
      simp only [Act.put, List.setIfInBounds_toArray, List.set_cons_zero, List.set_cons_succ, i64_w, i32_w]; rfl
     refine one_ (i := 21) (N := some 44) #[true, true, true, true, true, true, true, true, true, true, true, true, true, true, true, true, true, true, true, true, true, true, false] rfl rfl (one_of HT_.out (by kernel_rfl)) (by decide) (fun K hK => ?_); refine Kd.R_append_step k39 (w0 := w) w.heap.size (by rfl) (.tmp 23) (.tmp 43) 23 39 (.agg #[(.int .i64 0), (.int .i64 0), (.string ⟨#[]⟩)]) 32 rfl Try.underlying23 info39 rfl (by decide) (by omega) u7 x7_1 (⟨wrap64 (((rd_T39 l1 x19_1).f0) + x8_1), wrap64 ((wrap64 (((rd_T39 l1 x19_1).f0) + x8_1)) + (((rd_T39 l1 x19_1).f2).size : Int)), a0.extract (((rd_T39 l1 x19_1).f0) : Int).toNat (((rd_T39 l1 x19_1).f1) : Int).toNat⟩ : S39) [.int .i64 (wrap64 (((rd_T39 l1 x19_1).f0) + x8_1)), .int .i64 (wrap64 ((wrap64 (((rd_T39 l1 x19_1).f0) + x8_1)) + (((rd_T39 l1 x19_1).f2).size : Int))), .string (a0.extract (((rd_T39 l1 x19_1).f0) : Int).toNat (((rd_T39 l1 x19_1).f1) : Int).toNat)] (fun k_ => k_ ≠ gb290) (fun _ => False) rfl rfl ?aP (fun _ hk => hk.elim) ?aF ?aO ?aB ?aS ?aL ?_
     (case aP => exact k39_mkM _ _ _ (⟨wrap64 (((rd_T39 l1 x19_1).f0) + x8_1), wrap64 ((wrap64 (((rd_T39 l1 x19_1).f0) + x8_1)) + (((rd_T39 l1 x19_1).f2).size : Int)), a0.extract (((rd_T39 l1 x19_1).f0) : Int).toNat (((rd_T39 l1 x19_1).f1) : Int).toNat⟩ : S39))
     (case aB => exact zb)
     (case aF => exact (fun k_ hk => Kd.freshB (g := gb290) (o := .cells #[.int .i64 ((rd_T39 l1 x19_1).f0), .int .i64 ((rd_T39 l1 x19_1).f1), .string ((rd_T39 l1 x19_1).f2)] 39 (0, 0)) (Cl.blk BK290.out) k_ hk))
     (case aO => exact (zR HO_7))
     (case aS => exact (below_size zb))
     (case aL => have := LMc12.out; omega)
     intro v292 w17 ho hb hg hat; rw [← Ny291.out] at ho
     replace BK290 := (blk_grown' BK290 hg (Kd.R_away HO_7.out (fun _ hk => hk)))
     replace HB := Aside0.mk (hb); have HO293 := Aside0.mk (ho); clear HO_7 ho hb hg hat; refine hK.out _ _ ⟨(blk_cell BK290.out 0).trans rfl, (blk_cell BK290.out 1).trans rfl, (blk_cell BK290.out 2).trans rfl⟩ (fun hHeld => ?_); clear hK K; refine norm_ (a' := ?_) ?_ ?_; rotate_left
     ·show Act.put _ (some 44) _ = _
      simp only [Act.put, List.setIfInBounds_toArray, List.set_cons_zero, List.set_cons_succ, i64_w, i32_w]; rfl
     refine zp 22 7 HT_ ?_; refine done_ (done_of HT_.out (by kernel_rfl)) ?_; obtain ⟨hcz18_0, hcz18_1, hcz18_2⟩ := zc3 BK290; obtain ⟨hfz18_0, hfz18_1, hfz18_2⟩ := zz3 BK290
     try go_wp2
     go_roundg k1
     case measure => have := HK1.out; omega
     case rel => exact ⟨(y291), (wrap64 (x8_1 + (wrap64 ((((rd_T39 l1 x19_1).f2).size : Int) - (wrap64 (((rd_T39 l1 x19_1).f1) - ((rd_T39 l1 x19_1).f0))))))), (wrap64 (x19_1 + 1)), zs, zs, H', zk, ⟨by (with_reducible repeat (first | apply Kd.R_alloc | apply Kd.R_drewN | apply Kd.R_drew)); exact Kd.R_mono HO293.out (fun _ hk => trivial)⟩, ⟨zb⟩⟩
    ·rw [if_neg c6] at H; have c6b0 := decide_eq_false c6; clear c6; simp only [Option.some.injEq, Prod.mk.injEq] at H; obtain ⟨rfl, rfl⟩ := H; go_wp2
     go_ret2
     exact ⟨_, zr, by (with_reducible repeat (first | apply Kd.R_alloc | apply Kd.R_drewN | apply Kd.R_drew)); exact HO_7.out, zb⟩
 ·rw [if_neg c4] at H; have c4b0 : (t288 == 0) = false := beq_eq_false_iff_ne.mpr c4; have c4b1 : (t288 != 0) = true := bne_iff_ne.mpr c4; simp only [Option.some.injEq, Prod.mk.injEq] at H; obtain ⟨rfl, rfl⟩ := H; go_enter Try.func28, Try.ntmps28
  go_wp2_with (first | ((with_reducible refine zG 43 rfl ?_); refine zg 13 Try.func43 ((rope_Check.calls k a0 _ _ l1 t288 _ ?side1 ?side2 A3.out).mono ?_); (case side1 => exact zE HR1); (case side2 => exact HC1.out); rintro e w19 ⟨rfl, hb⟩; refine ⟨_, rfl, ?_⟩; replace HB := (zB hb); (try clear hb); (try clear hb2); (try clear hk); (try clear hi)))
  go_ret2
  exact ⟨_, zr, by first | exact Kd.R_nil _ _ _ _ _ | exact Kd.N_nil _ _ _ _ _ | exact Kd.V_nil _ _ _ _ _ | exact Kd.Q_nil _ _ _ _ _ | exact Kd.S_nil _ _ _ _ _, zb⟩

end Go.Proofs.Ytahcpappailjgaa.P

namespace Go.Proofs.Ytahcpappailjgaa.P
open Go.RowKit Go.Proofs.YtahcpappailjgaaW.PrintWords Go.Proofs.YtahcpappailjgaaW.PrintLast Go.Proofs.YtahcpappailjgaaW.PrintMore
attribute [local go_sem] max2_int min2_int max_two min_two max_three min_three max_four min_four
set_option linter.unusedVariables false
set_option linter.unusedSimpArgs false

/-! ### relex_Line: function 23 -/
def relex_Line.l0 : Nat → ByteArray → Int → Int → List (S39) → Int → Int → Option (Int × Int)
 | 0, _, _, _, _, _, _ => none
 | k + 1, x8, x11, x12, x41, x42, x43 => if x43 < x42 then (if 0 ≤ x43 then (if x43 < (x41.length : Int) then (if 0 ≤ ((rd_T39 x41 x43).f0) then (if ((rd_T39 x41 x43).f0) ≤ (x8.size : Int) then ((strings_LastIndexByte.f (x8.extract 0 (((rd_T39 x41 x43).f0) : Int).toNat) 10).bind fun t304 => (if 0 ≤ ((rd_T39 x41 x43).f1) then (if ((rd_T39 x41 x43).f1) ≤ (x8.size : Int) then ((strings_IndexByte.f (x8.extract (((rd_T39 x41 x43).f1) : Int).toNat x8.size) 10).bind fun t305 => (if t305 ≥ 0 then (relex_Line.l0 k x8 (wrap64 (x11 + (mx (wrap64 ((wrap64 ((wrap64 (((rd_T39 x41 x43).f1) + t305)) + 1)) - (mx (wrap64 (t304 + 1)) x12))) 0))) (mx x12 (wrap64 ((wrap64 (((rd_T39 x41 x43).f1) + t305)) + 1))) x41 x42 (wrap64 (x43 + 1))) else (relex_Line.l0 k x8 (wrap64 (x11 + (mx (wrap64 ((x8.size : Int) - (mx (wrap64 (t304 + 1)) x12))) 0))) (mx x12 (x8.size : Int)) x41 x42 (wrap64 (x43 + 1))))) else (none)) else (none))) else (none)) else (none)) else (none)) else (none)) else (some (x11, 0))
def relex_Line.f (k : Nat) (l0 : List (S59)) (l1 : List (S39)) : Option (Int × Int) := (token_Text.f k l0).bind fun bt294 => (if bt294.2 = 0 then ((rope_Apply.f k bt294.1 l1).bind fun bt296 => (if bt296.2 = 0 then ((rope_Invert.f k bt294.1 l1).bind fun bt298 => (relex_Line.l0 k bt296.1 0 0 bt298.1 (bt298.1.length : Int) 0)) else (some (0, bt296.2)))) else (some (0, bt294.2)))
theorem relex_Line.mono_l : ∀ k, (∀ y0 y1 y2 y3 y4 y5, LeO (relex_Line.l0 k y0 y1 y2 y3 y4 y5) (relex_Line.l0 (k + 1) y0 y1 y2 y3 y4 y5))
 | 0 => fun _ _ _ _ _ _ r h => by simp [relex_Line.l0] at h
 | k + 1 => by
  have ih0 := relex_Line.mono_l k
  (intro y0 y1 y2 y3 y4 y5; unfold relex_Line.l0); rotate_left
  all_goals repeat' first | (with_reducible exact ih0 _ _ _ _ _ _) | (with_reducible exact rope_Apply.mono _ _ _) | (with_reducible exact rope_Invert.mono _ _ _) | (with_reducible exact token_Text.mono _ _) | (with_reducible exact LeO.refl _) | (with_reducible exact LeO.none _) | (with_reducible refine LeO.ite ?_ ?_) | (with_reducible refine LeO.bind ?_ (fun _ => ?_)) | exact ih0 _ _ _ _ _ _ | exact rope_Apply.mono _ _ _ | exact rope_Invert.mono _ _ _ | exact token_Text.mono _ _ | exact LeO.none _ | refine LeO.ite ?_ ?_ | refine LeO.bind ?_ (fun _ => ?_)
theorem relex_Line.mono : ∀ a0 a1 k, LeO (relex_Line.f k a0 a1) (relex_Line.f (k + 1) a0 a1) := by
 intro a0 a1 k; have ih0 := relex_Line.mono_l k; unfold relex_Line.f
 repeat' first
   | (with_reducible exact ih0 _ _ _ _ _ _)
   | (with_reducible exact rope_Apply.mono _ _ _)
   | (with_reducible exact rope_Invert.mono _ _ _)
   | (with_reducible exact token_Text.mono _ _)
   | (with_reducible exact LeO.refl _)
   | (with_reducible exact LeO.none _)
   | (with_reducible refine LeO.ite ?_ ?_)
   | (with_reducible refine LeO.bind ?_ (fun _ => ?_))
   | exact ih0 _ _ _ _ _ _
   | exact rope_Apply.mono _ _ _
   | exact rope_Invert.mono _ _ _
   | exact token_Text.mono _ _
   | exact LeO.none _
   | refine LeO.ite ?_ ?_
   | refine LeO.bind ?_ (fun _ => ?_)
set_option maxHeartbeats 8000000 in
set_option maxRecDepth 100000 in
theorem relex_Line.calls (k : Nat) (A0 : Option Addr) (c0 : Nat) (l0 : List (S59)) (A1 : Option Addr) (c1 : Nat) (l1 : List (S39)) (r1 : Int) (r2 : Int) (w : World) (hr0 : Kd.C k59 w A0 l0.length l0) (hc0 : l0.length ≤ c0) (hr1 : Kd.C k39 w A1 l1.length l1) (hc1 : l1.length ≤ c1) (h : relex_Line.f k l0 l1 = some (r1, r2)) :
  Calls Try.prog 23 #[.slice A0 l0.length c0, .slice A1 l1.length c1] w fun e w' => e = .returned (.tuple #[.int .i64 r1, .int .i64 r2]) ∧ Below w.heap.size w w' := by
 have hu39 := Try.underlying39; have HR0 := Aside0.mk hr0; have HC0 := Aside0.mk hc0; clear hr0 hc0; have HR1 := Aside0.mk hr1; have HC1 := Aside0.mk hc1; clear hr1 hc1; have HB := Aside0.mk (Below.refl w.heap.size w); have H : ((token_Text.f k l0).bind fun bt294 => (if bt294.2 = 0 then ((rope_Apply.f k bt294.1 l1).bind fun bt296 => (if bt296.2 = 0 then ((rope_Invert.f k bt294.1 l1).bind fun bt298 => (relex_Line.l0 k bt296.1 0 0 bt298.1 (bt298.1.length : Int) 0)) else (some (0, bt296.2)))) else (some (0, bt294.2)))) = some (r1, r2) := h; clear h; replace H := Option.bind_eq_some_iff.mp H; obtain ⟨⟨t294, t295⟩, A30, H⟩ := H; replace H : (if t295 = 0 then ((rope_Apply.f k t294 l1).bind fun bt296 => (if bt296.2 = 0 then ((rope_Invert.f k t294 l1).bind fun bt298 => (relex_Line.l0 k bt296.1 0 0 bt298.1 (bt298.1.length : Int) 0)) else (some (0, bt296.2)))) else (some (0, t295))) = some (r1, r2) := H; have A3 := Aside0.mk A30; clear A30; by_cases c4 : t295 = 0
 ·rw [if_pos c4] at H; have c4b0 : (t295 == 0) = true := beq_iff_eq.mpr c4; have c4b1 : (t295 != 0) = false := bne_eq_false_iff_eq.mpr c4; clear c4; replace H := Option.bind_eq_some_iff.mp H; obtain ⟨⟨t296, t297⟩, A50, H⟩ := H; replace H : (if t297 = 0 then ((rope_Invert.f k t294 l1).bind fun bt298 => (relex_Line.l0 k t296 0 0 bt298.1 (bt298.1.length : Int) 0)) else (some (0, t297))) = some (r1, r2) := H; have A5 := Aside0.mk A50; clear A50; by_cases c6 : t297 = 0
  ·rw [if_pos c6] at H; have c6b0 : (t297 == 0) = true := beq_iff_eq.mpr c6; have c6b1 : (t297 != 0) = false := bne_eq_false_iff_eq.mpr c6; clear c6; replace H := Option.bind_eq_some_iff.mp H; obtain ⟨⟨t298, t299⟩, A70, H⟩ := H; replace H : (relex_Line.l0 k t296 0 0 t298 (t298.length : Int) 0) = some (r1, r2) := H; have A7 := Aside0.mk A70; clear A70; have H' := Aside0.mk H; clear H; go_enter Try.func23, Try.ntmps23
   go_wp2_with (first | ((with_reducible refine zG 30 rfl ?_); refine zg 20 Try.func30 ((token_Text.calls k _ _ l0 t294 t295 _ ?side1 ?side2 A3.out).mono ?_); (case side1 => exact zE HR0); (case side2 => exact HC0.out); rintro e w8 ⟨rfl, hb⟩; refine ⟨_, rfl, ?_⟩; replace HB := (zB hb); (try clear hb); (try clear hb2); (try clear hk); (try clear hi)) | ((with_reducible refine zG 27 rfl ?_); refine zg 29 Try.func27 ((rope_Apply.calls k t294 _ _ l1 t296 t297 _ ?side1 ?side2 A5.out).mono ?_); (case side1 => exact zC HR1); (case side2 => exact HC1.out); rintro e w9 ⟨rfl, hb⟩; refine ⟨_, rfl, ?_⟩; replace HB := (zB hb); (try clear hb); (try clear hb2); (try clear hk); (try clear hi)) | ((with_reducible refine zG 28 rfl ?_); refine zg 38 Try.func28 ((rope_Invert.calls k t294 _ _ l1 t298 t299 _ ?side1 ?side2 A7.out).mono ?_); (case side1 => exact zC HR1); (case side2 => exact HC1.out); rintro e w10 ⟨v300, rfl, ho0, hb⟩; refine ⟨_, rfl, ?_⟩; have HO301 := Aside0.mk (Kd.R_lower ho0 (below_size zb)); replace HB := (zB hb); (try clear hb); (try clear hb2); (try clear hk); (try clear hi); (try clear ho0); obtain ⟨Ao11, co11, eo11⟩ := Kd.R_slice HO301.out; subst eo11))
   go_loopg [11, 12, 43] k (fun kq v11 v12 v43 w' => ∃ (x11_1 : Int) (x12_1 : Int) (x43_1 : Int), v11 = .int .i64 x11_1 ∧ v12 = .int .i64 x12_1 ∧ v43 = .int .i64 x43_1 ∧ Aside0 (relex_Line.l0 kq t296 x11_1 x12_1 t298 (t298.length : Int) x43_1 = some (r1, r2)) ∧ Aside0 (kq ≤ k) ∧ Aside0 (Kd.R k39 39 w' w.heap.size (fun _ => True) (.slice Ao11 t298.length co11) t298) ∧ Aside0 (Below w.heap.size w w'))
   case atStart => exact ⟨(0), (0), (0), zs, zs, zs, H', ⟨Nat.le_refl _⟩, ⟨by (with_reducible repeat (first | apply Kd.R_alloc | apply Kd.R_drewN | apply Kd.R_drew)); exact HO301.out⟩, ⟨zb⟩⟩
   case round =>
    clear H'; obtain ⟨x11_1, x12_1, x43_1, rfl, rfl, rfl, HA, HK1, HO_41, HB⟩ := hrel
    cases gk with
    | zero => exact absurd HA.out (by simp [relex_Line.l0])
    | succ k1 =>
     have H := HA.out; clear HA; simp only [relex_Line.l0] at H; by_cases c12 : x43_1 < (t298.length : Int)
     ·rw [if_pos c12] at H; have c12b0 := decide_eq_true c12; clear c12; replace H := zi1 H; obtain ⟨c13b0, H⟩ := H; replace H := zi1 H; obtain ⟨c14b0, H⟩ := H; replace H := zi2 H; obtain ⟨c15b0, c15b1, H⟩ := H; replace H := zi2 H; obtain ⟨c16b0, c16b1, H⟩ := H; replace H := zo H; obtain ⟨t304, A17, H⟩ := H
      obtain ⟨ji18, hji18⟩ : ∃ j_ : Int, (mx (wrap64 (t304 + 1)) x12_1) = j_ := ⟨_, rfl⟩
      replace H : (if 0 ≤ ((rd_T39 t298 x43_1).f1) then (if ((rd_T39 t298 x43_1).f1) ≤ (t296.size : Int) then ((strings_IndexByte.f (t296.extract (((rd_T39 t298 x43_1).f1) : Int).toNat t296.size) 10).bind fun t305 => (if t305 ≥ 0 then (relex_Line.l0 k1 t296 (wrap64 (x11_1 + (mx (wrap64 ((wrap64 ((wrap64 (((rd_T39 t298 x43_1).f1) + t305)) + 1)) - (ji18))) 0))) (mx x12_1 (wrap64 ((wrap64 (((rd_T39 t298 x43_1).f1) + t305)) + 1))) t298 (t298.length : Int) (wrap64 (x43_1 + 1))) else (relex_Line.l0 k1 t296 (wrap64 (x11_1 + (mx (wrap64 ((t296.size : Int) - (ji18))) 0))) (mx x12_1 (t296.size : Int)) t298 (t298.length : Int) (wrap64 (x43_1 + 1))))) else (none)) else (none)) = some (r1, r2) := by first | (rw [hji18] at H; exact H) | (simp only [hji18] at H ⊢; exact H)
      (try rw [hji18] at A17)
      have hji18_ : (if (wrap64 (t304 + 1)) < x12_1 then x12_1 else (wrap64 (t304 + 1))) = ji18 := hji18; replace H := zi2 H; obtain ⟨c19b0, c19b1, H⟩ := H; replace H := zi2 H; obtain ⟨c20b0, c20b1, H⟩ := H; replace H := zo H; obtain ⟨t305, A21, H⟩ := H; by_cases c22 : t305 ≥ 0
      ·rw [if_pos c22] at H; have c22b0 := decide_eq_true c22; clear c22
       obtain ⟨ji23, hji23⟩ : ∃ j_ : Int, (mx (wrap64 ((wrap64 ((wrap64 (((rd_T39 t298 x43_1).f1) + t305)) + 1)) - (ji18))) 0) = j_ := ⟨_, rfl⟩
       replace H : (relex_Line.l0 k1 t296 (wrap64 (x11_1 + (ji23))) (mx x12_1 (wrap64 ((wrap64 (((rd_T39 t298 x43_1).f1) + t305)) + 1))) t298 (t298.length : Int) (wrap64 (x43_1 + 1))) = some (r1, r2) := by first | (rw [hji23] at H; exact H) | (simp only [hji23] at H ⊢; exact H)
       (try rw [hji23] at A17)
       (try rw [hji23] at A21)
       have hji23_ : (if (wrap64 ((wrap64 ((wrap64 (((rd_T39 t298 x43_1).f1) + t305)) + 1)) - (ji18))) < 0 then 0 else (wrap64 ((wrap64 ((wrap64 (((rd_T39 t298 x43_1).f1) + t305)) + 1)) - (ji18)))) = ji23 := hji23
       obtain ⟨ji24, hji24⟩ : ∃ j_ : Int, (mx x12_1 (wrap64 ((wrap64 (((rd_T39 t298 x43_1).f1) + t305)) + 1))) = j_ := ⟨_, rfl⟩
       replace H : (relex_Line.l0 k1 t296 (wrap64 (x11_1 + (ji23))) ji24 t298 (t298.length : Int) (wrap64 (x43_1 + 1))) = some (r1, r2) := by first | (rw [hji24] at H; exact H) | (simp only [hji24] at H ⊢; exact H)
       (try rw [hji24] at A17)
       (try rw [hji24] at A21)
       have hji24_ : (if x12_1 < (wrap64 ((wrap64 (((rd_T39 t298 x43_1).f1) + t305)) + 1)) then (wrap64 ((wrap64 (((rd_T39 t298 x43_1).f1) + t305)) + 1)) else x12_1) = ji24 := hji24; have H' := Aside0.mk H; clear H; have p302 : 0 ≤ (x43_1 : Int) := zt; have q302 : x43_1 < (t298.length : Int) := zt; obtain ⟨ad302, e302, hx302_0, hx302_1, hx302_2⟩ := at_T39 (Kd.R_reads' HO_41.out).2.2 x43_1 p302 q302
       cases e302
       replace p302 := eq_true p302; replace q302 := eq_true q302
       go_wp2_with (first | ((with_reducible refine zD 14 rfl ?_); refine zx 14 #[.int .i64 0, .int .i64 0, .string (⟨#[]⟩ : ByteArray)] 39 ?_; intro gb303 hg w25 hbox hb; replace HO_41 := Aside0.mk (Kd.R_below (Kd.R_elderB (zR HO_41) gb303 (Nat.le_of_eq hg.symm)) hb); have BK303 := Aside0.mk (hbox); have GW303 := (zq hg : Aside0 (w.heap.size ≤ gb303)); have GE303 := GW303; replace HB := (zB hb); clear hb hbox hg; obtain ⟨hcz26_0, hcz26_1, hcz26_2⟩ := zc3 BK303; obtain ⟨hfz26_0, hfz26_1, hfz26_2⟩ := zz3 BK303) | ((with_reducible refine zG 33 rfl ?_); refine zg 51 Try.func33 ((strings_LastIndexByte.calls (t296.extract 0 (((rd_T39 t298 x43_1).f0) : Int).toNat) 10 t304 _ A17.out).mono ?_); rintro e w' ⟨rfl, ⟨nd, rfl⟩⟩; refine ⟨_, rfl, ?_⟩) | ((with_reducible refine zG 35 rfl ?_); refine zg 61 Try.func35 ((strings_IndexByte.calls (t296.extract (((rd_T39 t298 x43_1).f1) : Int).toNat t296.size) 10 t305 _ A21.out).mono ?_); rintro e w' ⟨rfl, ⟨nd, rfl⟩⟩; refine ⟨_, rfl, ?_⟩))
       go_roundg k1
       case measure => have := HK1.out; omega
       case rel => exact ⟨(wrap64 (x11_1 + (ji23))), (ji24), (wrap64 (x43_1 + 1)), (by first | rfl | (simp; done) | (simp only [← hji23] <;> (first | rfl | simp)) | (simp [*]; done)), (by first | rfl | (simp; done) | (simp only [← hji24] <;> (first | rfl | simp)) | (simp [*]; done)), zs, H', zk, ⟨by (with_reducible repeat (first | apply Kd.R_alloc | apply Kd.R_drewN | apply Kd.R_drew)); exact Kd.R_mono (Kd.R_far (p := ⟨gb303, 2, none⟩) (Kd.R_far (p := ⟨gb303, 1, none⟩) (Kd.R_far (p := ⟨gb303, 0, none⟩) (Kd.R_mono HO_41.out (fun k_ hk => (⟨hk, hk.2⟩ : _ ∧ k_ ≠ gb303))) (fun _ hk => hk.2) (.int .i64 ((rd_T39 t298 x43_1).f0))) (fun _ hk => hk.2) (.int .i64 ((rd_T39 t298 x43_1).f1))) (fun _ hk => hk.2) (.string ((rd_T39 t298 x43_1).f2))) (fun _ hk => trivial)⟩, ⟨zb⟩⟩
      ·rw [if_neg c22] at H; have c22b0 := decide_eq_false c22; clear c22
       obtain ⟨ji27, hji27⟩ : ∃ j_ : Int, (mx (wrap64 ((t296.size : Int) - (ji18))) 0) = j_ := ⟨_, rfl⟩
       replace H : (relex_Line.l0 k1 t296 (wrap64 (x11_1 + (ji27))) (mx x12_1 (t296.size : Int)) t298 (t298.length : Int) (wrap64 (x43_1 + 1))) = some (r1, r2) := by first | (rw [hji27] at H; exact H) | (simp only [hji27] at H ⊢; exact H)
       (try rw [hji27] at A17)
       (try rw [hji27] at A21)
       have hji27_ : (if (wrap64 ((t296.size : Int) - (ji18))) < 0 then 0 else (wrap64 ((t296.size : Int) - (ji18)))) = ji27 := hji27
       obtain ⟨ji28, hji28⟩ : ∃ j_ : Int, (mx x12_1 (t296.size : Int)) = j_ := ⟨_, rfl⟩
       replace H : (relex_Line.l0 k1 t296 (wrap64 (x11_1 + (ji27))) ji28 t298 (t298.length : Int) (wrap64 (x43_1 + 1))) = some (r1, r2) := by first | (rw [hji28] at H; exact H) | (simp only [hji28] at H ⊢; exact H)
       (try rw [hji28] at A17)
       (try rw [hji28] at A21)
       have hji28_ : (if x12_1 < (t296.size : Int) then (t296.size : Int) else x12_1) = ji28 := hji28; have H' := Aside0.mk H; clear H; have p302 : 0 ≤ (x43_1 : Int) := zt; have q302 : x43_1 < (t298.length : Int) := zt; obtain ⟨ad302, e302, hx302_0, hx302_1, hx302_2⟩ := at_T39 (Kd.R_reads' HO_41.out).2.2 x43_1 p302 q302
       cases e302
       replace p302 := eq_true p302; replace q302 := eq_true q302
       go_wp2_with (first | ((with_reducible refine zD 14 rfl ?_); refine zx 14 #[.int .i64 0, .int .i64 0, .string (⟨#[]⟩ : ByteArray)] 39 ?_; intro gb303 hg w29 hbox hb; replace HO_41 := Aside0.mk (Kd.R_below (Kd.R_elderB (zR HO_41) gb303 (Nat.le_of_eq hg.symm)) hb); have BK303 := Aside0.mk (hbox); have GW303 := (zq hg : Aside0 (w.heap.size ≤ gb303)); have GE303 := GW303; replace HB := (zB hb); clear hb hbox hg; obtain ⟨hcz30_0, hcz30_1, hcz30_2⟩ := zc3 BK303; obtain ⟨hfz30_0, hfz30_1, hfz30_2⟩ := zz3 BK303) | ((with_reducible refine zG 33 rfl ?_); refine zg 51 Try.func33 ((strings_LastIndexByte.calls (t296.extract 0 (((rd_T39 t298 x43_1).f0) : Int).toNat) 10 t304 _ A17.out).mono ?_); rintro e w' ⟨rfl, ⟨nd, rfl⟩⟩; refine ⟨_, rfl, ?_⟩) | ((with_reducible refine zG 35 rfl ?_); refine zg 61 Try.func35 ((strings_IndexByte.calls (t296.extract (((rd_T39 t298 x43_1).f1) : Int).toNat t296.size) 10 t305 _ A21.out).mono ?_); rintro e w' ⟨rfl, ⟨nd, rfl⟩⟩; refine ⟨_, rfl, ?_⟩))
       go_roundg k1
       case measure => have := HK1.out; omega
       case rel => exact ⟨(wrap64 (x11_1 + (ji27))), (ji28), (wrap64 (x43_1 + 1)), (by first | rfl | (simp; done) | (simp only [← hji27] <;> (first | rfl | simp)) | (simp [*]; done)), (by first | rfl | (simp; done) | (simp only [← hji28] <;> (first | rfl | simp)) | (simp [*]; done)), zs, H', zk, ⟨by (with_reducible repeat (first | apply Kd.R_alloc | apply Kd.R_drewN | apply Kd.R_drew)); exact Kd.R_mono (Kd.R_far (p := ⟨gb303, 2, none⟩) (Kd.R_far (p := ⟨gb303, 1, none⟩) (Kd.R_far (p := ⟨gb303, 0, none⟩) (Kd.R_mono HO_41.out (fun k_ hk => (⟨hk, hk.2⟩ : _ ∧ k_ ≠ gb303))) (fun _ hk => hk.2) (.int .i64 ((rd_T39 t298 x43_1).f0))) (fun _ hk => hk.2) (.int .i64 ((rd_T39 t298 x43_1).f1))) (fun _ hk => hk.2) (.string ((rd_T39 t298 x43_1).f2))) (fun _ hk => trivial)⟩, ⟨zb⟩⟩
     ·rw [if_neg c12] at H; have c12b0 := decide_eq_false c12; clear c12; simp only [Option.some.injEq, Prod.mk.injEq] at H; obtain ⟨rfl, rfl⟩ := H; go_wp2
      go_ret2
      exact ⟨zr, zb⟩
  ·rw [if_neg c6] at H; have c6b0 : (t297 == 0) = false := beq_eq_false_iff_ne.mpr c6; have c6b1 : (t297 != 0) = true := bne_iff_ne.mpr c6; simp only [Option.some.injEq, Prod.mk.injEq] at H; obtain ⟨rfl, rfl⟩ := H; go_enter Try.func23, Try.ntmps23
   go_wp2_with (first | ((with_reducible refine zG 30 rfl ?_); refine zg 20 Try.func30 ((token_Text.calls k _ _ l0 t294 t295 _ ?side1 ?side2 A3.out).mono ?_); (case side1 => exact zE HR0); (case side2 => exact HC0.out); rintro e w31 ⟨rfl, hb⟩; refine ⟨_, rfl, ?_⟩; replace HB := (zB hb); (try clear hb); (try clear hb2); (try clear hk); (try clear hi)) | ((with_reducible refine zG 27 rfl ?_); refine zg 29 Try.func27 ((rope_Apply.calls k t294 _ _ l1 t296 t297 _ ?side1 ?side2 A5.out).mono ?_); (case side1 => exact zC HR1); (case side2 => exact HC1.out); rintro e w32 ⟨rfl, hb⟩; refine ⟨_, rfl, ?_⟩; replace HB := (zB hb); (try clear hb); (try clear hb2); (try clear hk); (try clear hi)))
   go_ret2
   exact ⟨zr, zb⟩
 ·rw [if_neg c4] at H; have c4b0 : (t295 == 0) = false := beq_eq_false_iff_ne.mpr c4; have c4b1 : (t295 != 0) = true := bne_iff_ne.mpr c4; simp only [Option.some.injEq, Prod.mk.injEq] at H; obtain ⟨rfl, rfl⟩ := H; go_enter Try.func23, Try.ntmps23
  go_wp2_with (first | ((with_reducible refine zG 30 rfl ?_); refine zg 20 Try.func30 ((token_Text.calls k _ _ l0 t294 t295 _ ?side1 ?side2 A3.out).mono ?_); (case side1 => exact zE HR0); (case side2 => exact HC0.out); rintro e w33 ⟨rfl, hb⟩; refine ⟨_, rfl, ?_⟩; replace HB := (zB hb); (try clear hb); (try clear hb2); (try clear hk); (try clear hi)))
  go_ret2
  exact ⟨zr, zb⟩

/-! ### marginalialaw04_sample: function 39 -/
def marginalialaw04_sample.f (k : Nat)  : Option ((List (S59))) := (marginaliaref03_Lex.f k (⟨#[97, 32, 98, 32, 99]⟩ : ByteArray)).bind fun t306 => (some t306)
theorem marginalialaw04_sample.mono : ∀ k, LeO (marginalialaw04_sample.f k ) (marginalialaw04_sample.f (k + 1) ) := by
 intro  k; unfold marginalialaw04_sample.f
 repeat' first
   | (with_reducible exact marginaliaref03_Lex.mono _ _)
   | (with_reducible exact LeO.refl _)
   | (with_reducible exact LeO.none _)
   | (with_reducible refine LeO.ite ?_ ?_)
   | (with_reducible refine LeO.bind ?_ (fun _ => ?_))
   | exact marginaliaref03_Lex.mono _ _
   | exact LeO.none _
   | refine LeO.ite ?_ ?_
   | refine LeO.bind ?_ (fun _ => ?_)
set_option maxHeartbeats 8000000 in
set_option maxRecDepth 100000 in
theorem marginalialaw04_sample.calls (k : Nat)  (r : List (S59)) (w : World) (h : marginalialaw04_sample.f k  = some r) :
  Calls Try.prog 39 #[] w fun e w' => ∃ v0_ : Value, e = .returned (v0_) ∧ Kd.R k59 59 w' w.heap.size (fun _ => True) v0_ r ∧ Below w.heap.size w w' := by
 have HB := Aside0.mk (Below.refl w.heap.size w); have H : ((marginaliaref03_Lex.f k (⟨#[97, 32, 98, 32, 99]⟩ : ByteArray)).bind fun t306 => (some t306)) = some r := h; clear h; replace H := zo H; obtain ⟨t306, A1, H⟩ := H; obtain rfl := Option.some.inj H; go_enter Try.func39, Try.ntmps39
 go_wp2_with (first | ((with_reducible refine zG 15 rfl ?_); refine zg 1 Try.func15 ((marginaliaref03_Lex.calls k (⟨#[97, 32, 98, 32, 99]⟩ : ByteArray) t306 _ A1.out).mono ?_); rintro e w2 ⟨v307, rfl, ho0, hb⟩; refine ⟨_, rfl, ?_⟩; have HO308 := Aside0.mk (Kd.R_lower ho0 (below_size zb)); replace HB := (zB hb); (try clear hb); (try clear hb2); (try clear hk); (try clear hi); (try clear ho0)))
 go_ret; exact ⟨_, zr, by (with_reducible repeat (first | apply Kd.R_alloc | apply Kd.R_drewN | apply Kd.R_drew)); exact HO308.out, zb⟩

end Go.Proofs.Ytahcpappailjgaa.P

namespace Go.Proofs.Ytahcpappailjgaa.P
open Go.RowKit Go.Proofs.YtahcpappailjgaaW.PrintWords Go.Proofs.YtahcpappailjgaaW.PrintLast Go.Proofs.YtahcpappailjgaaW.PrintMore
attribute [local go_sem] max2_int min2_int max_two min_two max_three min_three max_four min_four
set_option linter.unusedVariables false
set_option linter.unusedSimpArgs false

/-! ### marginalialaw04_alive: function 14 -/
def marginalialaw04_alive.f (k : Nat)  : Option (Bool) := (marginalialaw04_sample.f k).bind fun t309 => ((relex_Relex.f k t309 (([(⟨2, 3, (⟨#[120, 32, 121]⟩ : ByteArray)⟩ : S39)] : List (S39)))).bind fun bt315 => ((marginalialaw04_sample.f k).bind fun t321 => ((marginaliaref03_Lex.f k (⟨#[97, 32, 100, 32, 99]⟩ : ByteArray)).bind fun t324 => ((relex_Common.f k t321 t324).bind fun bt327 => ((marginalialaw04_sample.f k).bind fun t330 => ((relex_Line.f k t330 (([(⟨2, 3, (⟨#[120, 10, 121]⟩ : ByteArray)⟩ : S39)] : List (S39)))).bind fun bt336 => (if bt315.2.2.2 = 0 then ((marginaliaref03_Lex.f k (⟨#[97, 32, 120, 32, 121, 32, 99]⟩ : ByteArray)).bind fun t338 => ((marginaliaref03_Same.f k bt315.1 t338).bind fun t341 => (if t341 = true then (if bt315.2.1 ≤ 2 then (if bt315.2.2.1 ≤ 2 then (if bt327.2.2 = 0 then (if bt327.1 = 2 then (if bt327.2.1 = 2 then (if bt336.2 = 0 then (some (bt336.1 == 7)) else (some false)) else (some false)) else (some false)) else (some false)) else (some false)) else (some false)) else (some false)))) else (some false))))))))
theorem marginalialaw04_alive.mono : ∀ k, LeO (marginalialaw04_alive.f k ) (marginalialaw04_alive.f (k + 1) ) := by
 intro  k; unfold marginalialaw04_alive.f
 repeat' first
   | (with_reducible exact marginalialaw04_sample.mono _)
   | (with_reducible exact marginaliaref03_Lex.mono _ _)
   | (with_reducible exact marginaliaref03_Same.mono _ _ _)
   | (with_reducible exact relex_Common.mono _ _ _)
   | (with_reducible exact relex_Line.mono _ _ _)
   | (with_reducible exact relex_Relex.mono _ _ _)
   | (with_reducible exact LeO.refl _)
   | (with_reducible exact LeO.none _)
   | (with_reducible refine LeO.ite ?_ ?_)
   | (with_reducible refine LeO.bind ?_ (fun _ => ?_))
   | exact marginalialaw04_sample.mono _
   | exact marginaliaref03_Lex.mono _ _
   | exact marginaliaref03_Same.mono _ _ _
   | exact relex_Common.mono _ _ _
   | exact relex_Line.mono _ _ _
   | exact relex_Relex.mono _ _ _
   | exact LeO.none _
   | refine LeO.ite ?_ ?_
   | refine LeO.bind ?_ (fun _ => ?_)
set_option maxHeartbeats 8000000 in
set_option maxRecDepth 100000 in
theorem marginalialaw04_alive.calls (k : Nat)  (r : Bool) (w : World) (h : marginalialaw04_alive.f k  = some r) :
  Calls Try.prog 14 #[] w fun e w' => e = .returned (.bool r) ∧ Below w.heap.size w w' := by
 have hu39 := Try.underlying39; have HB := Aside0.mk (Below.refl w.heap.size w); have H : ((marginalialaw04_sample.f k).bind fun t309 => ((relex_Relex.f k t309 (([(⟨2, 3, (⟨#[120, 32, 121]⟩ : ByteArray)⟩ : S39)] : List (S39)))).bind fun bt315 => ((marginalialaw04_sample.f k).bind fun t321 => ((marginaliaref03_Lex.f k (⟨#[97, 32, 100, 32, 99]⟩ : ByteArray)).bind fun t324 => ((relex_Common.f k t321 t324).bind fun bt327 => ((marginalialaw04_sample.f k).bind fun t330 => ((relex_Line.f k t330 (([(⟨2, 3, (⟨#[120, 10, 121]⟩ : ByteArray)⟩ : S39)] : List (S39)))).bind fun bt336 => (if bt315.2.2.2 = 0 then ((marginaliaref03_Lex.f k (⟨#[97, 32, 120, 32, 121, 32, 99]⟩ : ByteArray)).bind fun t338 => ((marginaliaref03_Same.f k bt315.1 t338).bind fun t341 => (if t341 = true then (if bt315.2.1 ≤ 2 then (if bt315.2.2.1 ≤ 2 then (if bt327.2.2 = 0 then (if bt327.1 = 2 then (if bt327.2.1 = 2 then (if bt336.2 = 0 then (some (bt336.1 == 7)) else (some false)) else (some false)) else (some false)) else (some false)) else (some false)) else (some false)) else (some false)))) else (some false))))))))) = some r := h; clear h; replace H := zo H; obtain ⟨t309, A1, H⟩ := H
 obtain ⟨y312, hy312⟩ : ∃ y_ : List (S39), y_ = (([(⟨2, 3, (⟨#[120, 32, 121]⟩ : ByteArray)⟩ : S39)] : List (S39))) := ⟨_, rfl⟩
 replace H : ((relex_Relex.f k t309 y312).bind fun bt315 => ((marginalialaw04_sample.f k).bind fun t321 => ((marginaliaref03_Lex.f k (⟨#[97, 32, 100, 32, 99]⟩ : ByteArray)).bind fun t324 => ((relex_Common.f k t321 t324).bind fun bt327 => ((marginalialaw04_sample.f k).bind fun t330 => ((relex_Line.f k t330 (([(⟨2, 3, (⟨#[120, 10, 121]⟩ : ByteArray)⟩ : S39)] : List (S39)))).bind fun bt336 => (if bt315.2.2.2 = 0 then ((marginaliaref03_Lex.f k (⟨#[97, 32, 120, 32, 121, 32, 99]⟩ : ByteArray)).bind fun t338 => ((marginaliaref03_Same.f k bt315.1 t338).bind fun t341 => (if t341 = true then (if bt315.2.1 ≤ 2 then (if bt315.2.2.1 ≤ 2 then (if bt327.2.2 = 0 then (if bt327.1 = 2 then (if bt327.2.1 = 2 then (if bt336.2 = 0 then (some (bt336.1 == 7)) else (some false)) else (some false)) else (some false)) else (some false)) else (some false)) else (some false)) else (some false)))) else (some false)))))))) = some r := by first | (rw [hy312]; with_reducible exact H) | (have H2_ := (Option.bind_some _ _).symm.trans H; rw [hy312]; with_reducible exact H2_) | (have H2_ := (Option.bind_some _ _).symm.trans H; with_reducible exact H2_) | with_reducible exact H | (rw [hy312]; exact H) | exact H
 have Ny312 := Aside0.mk hy312; clear hy312; replace H := Option.bind_eq_some_iff.mp H; obtain ⟨⟨t315, t318, t319, t320⟩, A20, H⟩ := H; replace H : ((marginalialaw04_sample.f k).bind fun t321 => ((marginaliaref03_Lex.f k (⟨#[97, 32, 100, 32, 99]⟩ : ByteArray)).bind fun t324 => ((relex_Common.f k t321 t324).bind fun bt327 => ((marginalialaw04_sample.f k).bind fun t330 => ((relex_Line.f k t330 (([(⟨2, 3, (⟨#[120, 10, 121]⟩ : ByteArray)⟩ : S39)] : List (S39)))).bind fun bt336 => (if t320 = 0 then ((marginaliaref03_Lex.f k (⟨#[97, 32, 120, 32, 121, 32, 99]⟩ : ByteArray)).bind fun t338 => ((marginaliaref03_Same.f k t315 t338).bind fun t341 => (if t341 = true then (if t318 ≤ 2 then (if t319 ≤ 2 then (if bt327.2.2 = 0 then (if bt327.1 = 2 then (if bt327.2.1 = 2 then (if bt336.2 = 0 then (some (bt336.1 == 7)) else (some false)) else (some false)) else (some false)) else (some false)) else (some false)) else (some false)) else (some false)))) else (some false))))))) = some r := H; have A2 := Aside0.mk A20; clear A20; replace H := zo H; obtain ⟨t321, A3, H⟩ := H; replace H := zo H; obtain ⟨t324, A4, H⟩ := H; replace H := Option.bind_eq_some_iff.mp H; obtain ⟨⟨t327, t328, t329⟩, A50, H⟩ := H; replace H : ((marginalialaw04_sample.f k).bind fun t330 => ((relex_Line.f k t330 (([(⟨2, 3, (⟨#[120, 10, 121]⟩ : ByteArray)⟩ : S39)] : List (S39)))).bind fun bt336 => (if t320 = 0 then ((marginaliaref03_Lex.f k (⟨#[97, 32, 120, 32, 121, 32, 99]⟩ : ByteArray)).bind fun t338 => ((marginaliaref03_Same.f k t315 t338).bind fun t341 => (if t341 = true then (if t318 ≤ 2 then (if t319 ≤ 2 then (if t329 = 0 then (if t327 = 2 then (if t328 = 2 then (if bt336.2 = 0 then (some (bt336.1 == 7)) else (some false)) else (some false)) else (some false)) else (some false)) else (some false)) else (some false)) else (some false)))) else (some false)))) = some r := H; have A5 := Aside0.mk A50; clear A50; replace H := zo H; obtain ⟨t330, A6, H⟩ := H
 obtain ⟨y333, hy333⟩ : ∃ y_ : List (S39), y_ = (([(⟨2, 3, (⟨#[120, 10, 121]⟩ : ByteArray)⟩ : S39)] : List (S39))) := ⟨_, rfl⟩
 replace H : ((relex_Line.f k t330 y333).bind fun bt336 => (if t320 = 0 then ((marginaliaref03_Lex.f k (⟨#[97, 32, 120, 32, 121, 32, 99]⟩ : ByteArray)).bind fun t338 => ((marginaliaref03_Same.f k t315 t338).bind fun t341 => (if t341 = true then (if t318 ≤ 2 then (if t319 ≤ 2 then (if t329 = 0 then (if t327 = 2 then (if t328 = 2 then (if bt336.2 = 0 then (some (bt336.1 == 7)) else (some false)) else (some false)) else (some false)) else (some false)) else (some false)) else (some false)) else (some false)))) else (some false))) = some r := by first | (rw [hy333]; with_reducible exact H) | (have H2_ := (Option.bind_some _ _).symm.trans H; rw [hy333]; with_reducible exact H2_) | (have H2_ := (Option.bind_some _ _).symm.trans H; with_reducible exact H2_) | with_reducible exact H | (rw [hy333]; exact H) | exact H
 have Ny333 := Aside0.mk hy333; clear hy333; replace H := Option.bind_eq_some_iff.mp H; obtain ⟨⟨t336, t337⟩, A70, H⟩ := H; replace H : (if t320 = 0 then ((marginaliaref03_Lex.f k (⟨#[97, 32, 120, 32, 121, 32, 99]⟩ : ByteArray)).bind fun t338 => ((marginaliaref03_Same.f k t315 t338).bind fun t341 => (if t341 = true then (if t318 ≤ 2 then (if t319 ≤ 2 then (if t329 = 0 then (if t327 = 2 then (if t328 = 2 then (if t337 = 0 then (some (t336 == 7)) else (some false)) else (some false)) else (some false)) else (some false)) else (some false)) else (some false)) else (some false)))) else (some false)) = some r := H; have A7 := Aside0.mk A70; clear A70; by_cases c8 : t320 = 0
 ·rw [if_pos c8] at H; have c8b0 : (t320 == 0) = true := beq_iff_eq.mpr c8; have c8b1 : (t320 != 0) = false := bne_eq_false_iff_eq.mpr c8; clear c8; replace H := zo H; obtain ⟨t338, A9, H⟩ := H; replace H := zo H; obtain ⟨t341, A10, H⟩ := H; by_cases c11 : t341 = true
  ·subst c11; rw [if_pos rfl] at H; by_cases c12 : t318 ≤ 2
   ·rw [if_pos c12] at H; have c12b0 := decide_eq_true c12; clear c12; by_cases c13 : t319 ≤ 2
    ·rw [if_pos c13] at H; have c13b0 := decide_eq_true c13; clear c13; by_cases c14 : t329 = 0
     ·rw [if_pos c14] at H; have c14b0 : (t329 == 0) = true := beq_iff_eq.mpr c14; have c14b1 : (t329 != 0) = false := bne_eq_false_iff_eq.mpr c14; clear c14; by_cases c15 : t327 = 2
      ·rw [if_pos c15] at H; have c15b0 : (t327 == 2) = true := beq_iff_eq.mpr c15; have c15b1 : (t327 != 2) = false := bne_eq_false_iff_eq.mpr c15; clear c15; by_cases c16 : t328 = 2
       ·rw [if_pos c16] at H; have c16b0 : (t328 == 2) = true := beq_iff_eq.mpr c16; have c16b1 : (t328 != 2) = false := bne_eq_false_iff_eq.mpr c16; clear c16; by_cases c17 : t337 = 0
        ·rw [if_pos c17] at H; have c17b0 : (t337 == 0) = true := beq_iff_eq.mpr c17; have c17b1 : (t337 != 0) = false := bne_eq_false_iff_eq.mpr c17; clear c17; obtain rfl := Option.some.inj H; go_enter Try.func14, Try.ntmps14
         go_wp2_with (first | ((with_reducible refine zG 39 rfl ?_); refine zg 11 Try.func39 ((marginalialaw04_sample.calls k  t309 _ A1.out).mono ?_); rintro e w18 ⟨v310, rfl, ho0, hb⟩; refine ⟨_, rfl, ?_⟩; have HO311 := Aside0.mk (Kd.R_lower ho0 (below_size zb)); replace HB := (zB hb); (try clear hb); (try clear hb2); (try clear hk); (try clear hi); (try clear ho0)) | ((with_reducible refine zD 13 rfl ?_); refine Kd.R_lit k39 _ 39 ?hg (N := 13) ?hd (xs := ([(⟨2, 3, (⟨#[120, 32, 121]⟩ : ByteArray)⟩ : S39)] : List (S39))) (inner := [.int .i64 2, .int .i64 3, .string (⟨#[120, 32, 121]⟩ : ByteArray)]) (ok := fun _ => True) (okp := fun _ => True) ?hr ?hp (fun _ hk => hk) trivial (Below.refl _ _) (Nat.le_refl _) (by simp) ?_; (case hd => rfl); (case hg => rfl); (case hr => first | (go_simp; done) | (go_simp; rfl)); (case hp => exact (Reps.c3 (show Kd.M k39 _ _ _ (⟨2, 3, (⟨#[120, 32, 121]⟩ : ByteArray)⟩ : S39) [.int .i64 2, .int .i64 3, .string (⟨#[120, 32, 121]⟩ : ByteArray)] from (k39_mkM _ _ _ (⟨2, 3, (⟨#[120, 32, 121]⟩ : ByteArray)⟩ : S39) )) (Reps.none _ _))); intro v313 w19 ho20 hb hg_ hnew_; clear hg_ hnew_; (first | rw [← Ny312.out] at ho20 | (simp only [Int.reduceToNat] at ho20; rw [← Ny312.out] at ho20)); replace HO311 := (zRb HO311 hb); have HO314 := Aside0.mk (Kd.R_lower ho20 (below_size zb)); replace HB := (zB hb); clear hb ho20; obtain ⟨Ao21, co21, eo21⟩ := Kd.R_slice HO311.out; subst eo21; obtain ⟨Ao22, co22, eo22⟩ := Kd.R_slice HO314.out; subst eo22) | ((with_reducible refine zG 12 rfl ?_); refine zg 14 Try.func12 ((relex_Relex.calls k (fun k_ => some k_ = (.slice Ao21 t309.length co21 : Value).ownBlock) _ _ t309 _ _ y312 t315 t318 t319 t320 _ ?side1 ?side2 ?side3 A2.out).mono ?_); (case side1 => exact Kd.R_V (Kd.R_tight rfl (Kd.R_apart' (HO311.out) (Kd.R_typed HO314.out) (by decide)))); (case side2 => exact zE' (Kd.R_reads' HO314.out).2.2); (case side3 => exact (Kd.R_reads' HO314.out).2.1); rintro e w23 ⟨v316, rfl, ho0, hb⟩; refine ⟨_, rfl, ?_⟩; replace HO314 := (zRb HO314 hb); have HO317 := Aside0.mk (Kd.R_lower (Kd.R_new' (Kd.R_mono (ok' := fun k_ => True) ho0 (fun _ hk_ => trivial)) (Kd.R_lt (zR HO311))) (below_size zb)); replace HO311 := Aside0.mk (Kd.R_elder' (zR HO311) (Kd.R_base ho0) hb); replace HB := (zB hb); (try clear hb); (try clear hb2); (try clear hk); (try clear hi); (try clear ho0)) | ((with_reducible refine zG 39 rfl ?_); refine zg 20 Try.func39 ((marginalialaw04_sample.calls k  t321 _ A3.out).mono ?_); rintro e w24 ⟨v322, rfl, ho0, hb⟩; refine ⟨_, rfl, ?_⟩; replace HO314 := (zRb HO314 hb); have HO323 := Aside0.mk (Kd.R_lower (Kd.R_new' (Kd.R_new' ho0 (Kd.R_lt (zR HO311))) (Kd.R_lt (zR HO317))) (below_size zb)); replace HO311 := Aside0.mk (Kd.R_elder' (zR HO311) (Kd.R_base ho0) hb); replace HO317 := Aside0.mk (Kd.R_elder' (zR HO317) (Kd.R_base ho0) hb); replace HB := (zB hb); (try clear hb); (try clear hb2); (try clear hk); (try clear hi); (try clear ho0)) | ((with_reducible refine zG 15 rfl ?_); refine zg 21 Try.func15 ((marginaliaref03_Lex.calls k (⟨#[97, 32, 100, 32, 99]⟩ : ByteArray) t324 _ A4.out).mono ?_); rintro e w25 ⟨v325, rfl, ho0, hb⟩; refine ⟨_, rfl, ?_⟩; replace HO314 := (zRb HO314 hb); have HO326 := Aside0.mk (Kd.R_lower (Kd.R_new' (Kd.R_new' (Kd.R_new' ho0 (Kd.R_lt (zR HO311))) (Kd.R_lt (zR HO317))) (Kd.R_lt (zR HO323))) (below_size zb)); replace HO311 := Aside0.mk (Kd.R_elder' (zR HO311) (Kd.R_base ho0) hb); replace HO317 := Aside0.mk (Kd.R_elder' (zR HO317) (Kd.R_base ho0) hb); replace HO323 := Aside0.mk (Kd.R_elder' (zR HO323) (Kd.R_base ho0) hb); replace HB := (zB hb); (try clear hb); (try clear hb2); (try clear hk); (try clear hi); (try clear ho0); obtain ⟨Ao26, co26, eo26⟩ := Kd.R_slice HO323.out; subst eo26; obtain ⟨Ao27, co27, eo27⟩ := Kd.R_slice HO326.out; subst eo27) | ((with_reducible refine zG 21 rfl ?_); refine zg 22 Try.func21 ((relex_Common.calls k _ _ t321 _ _ t324 t327 t328 t329 _ ?side1 ?side2 ?side3 ?side4 A5.out).mono ?_); (case side1 => exact zE' (Kd.R_reads' HO323.out).2.2); (case side2 => exact (Kd.R_reads' HO323.out).2.1); (case side3 => exact zE' (Kd.R_reads' HO326.out).2.2); (case side4 => exact (Kd.R_reads' HO326.out).2.1); rintro e w28 ⟨rfl, hb⟩; refine ⟨_, rfl, ?_⟩; replace HO311 := (zRb HO311 hb); replace HO314 := (zRb HO314 hb); replace HO317 := (zRb HO317 hb); replace HO323 := (zRb HO323 hb); replace HO326 := (zRb HO326 hb); replace HB := (zB hb); (try clear hb); (try clear hb2); (try clear hk); (try clear hi)) | ((with_reducible refine zG 39 rfl ?_); refine zg 27 Try.func39 ((marginalialaw04_sample.calls k  t330 _ A6.out).mono ?_); rintro e w29 ⟨v331, rfl, ho0, hb⟩; refine ⟨_, rfl, ?_⟩; replace HO314 := (zRb HO314 hb); have HO332 := Aside0.mk (Kd.R_lower (Kd.R_new' (Kd.R_new' (Kd.R_new' (Kd.R_new' ho0 (Kd.R_lt (zR HO311))) (Kd.R_lt (zR HO317))) (Kd.R_lt (zR HO323))) (Kd.R_lt (zR HO326))) (below_size zb)); replace HO311 := Aside0.mk (Kd.R_elder' (zR HO311) (Kd.R_base ho0) hb); replace HO317 := Aside0.mk (Kd.R_elder' (zR HO317) (Kd.R_base ho0) hb); replace HO323 := Aside0.mk (Kd.R_elder' (zR HO323) (Kd.R_base ho0) hb); replace HO326 := Aside0.mk (Kd.R_elder' (zR HO326) (Kd.R_base ho0) hb); replace HB := (zB hb); (try clear hb); (try clear hb2); (try clear hk); (try clear hi); (try clear ho0)) | ((with_reducible refine zD 29 rfl ?_); refine Kd.R_lit k39 _ 39 ?hg (N := 29) ?hd (xs := ([(⟨2, 3, (⟨#[120, 10, 121]⟩ : ByteArray)⟩ : S39)] : List (S39))) (inner := [.int .i64 2, .int .i64 3, .string (⟨#[120, 10, 121]⟩ : ByteArray)]) (ok := fun _ => True) (okp := fun _ => True) ?hr ?hp (fun _ hk => hk) trivial (Below.refl _ _) (Nat.le_refl _) (by simp) ?_; (case hd => rfl); (case hg => rfl); (case hr => first | (go_simp; done) | (go_simp; rfl)); (case hp => exact (Reps.c3 (show Kd.M k39 _ _ _ (⟨2, 3, (⟨#[120, 10, 121]⟩ : ByteArray)⟩ : S39) [.int .i64 2, .int .i64 3, .string (⟨#[120, 10, 121]⟩ : ByteArray)] from (k39_mkM _ _ _ (⟨2, 3, (⟨#[120, 10, 121]⟩ : ByteArray)⟩ : S39) )) (Reps.none _ _))); intro v334 w30 ho31 hb hg_ hnew_; clear hg_ hnew_; (first | rw [← Ny333.out] at ho31 | (simp only [Int.reduceToNat] at ho31; rw [← Ny333.out] at ho31)); replace HO311 := (zRb HO311 hb); replace HO317 := (zRb HO317 hb); replace HO323 := (zRb HO323 hb); replace HO326 := (zRb HO326 hb); replace HO332 := (zRb HO332 hb); have HO335 := Aside0.mk (Kd.R_lower (Kd.R_new' ho31 (Kd.R_lt (zR HO314))) (below_size zb)); replace HO314 := Aside0.mk (Kd.R_elder' (zR HO314) (Kd.R_base ho31) hb); replace HB := (zB hb); clear hb ho31; obtain ⟨Ao32, co32, eo32⟩ := Kd.R_slice HO332.out; subst eo32; obtain ⟨Ao33, co33, eo33⟩ := Kd.R_slice HO335.out; subst eo33) | ((with_reducible refine zG 23 rfl ?_); refine zg 30 Try.func23 ((relex_Line.calls k _ _ t330 _ _ y333 t336 t337 _ ?side1 ?side2 ?side3 ?side4 A7.out).mono ?_); (case side1 => exact zE' (Kd.R_reads' HO332.out).2.2); (case side2 => exact (Kd.R_reads' HO332.out).2.1); (case side3 => exact zE' (Kd.R_reads' HO335.out).2.2); (case side4 => exact (Kd.R_reads' HO335.out).2.1); rintro e w34 ⟨rfl, hb⟩; refine ⟨_, rfl, ?_⟩; replace HO311 := (zRb HO311 hb); replace HO314 := (zRb HO314 hb); replace HO317 := (zRb HO317 hb); replace HO323 := (zRb HO323 hb); replace HO326 := (zRb HO326 hb); replace HO332 := (zRb HO332 hb); replace HO335 := (zRb HO335 hb); replace HB := (zB hb); (try clear hb); (try clear hb2); (try clear hk); (try clear hi)) | (go_at_call 15; (with_reducible refine (marginaliaref03_Lex.calls k (⟨#[97, 32, 120, 32, 121, 32, 99]⟩ : ByteArray) t338 _ A9.out).mono ?_); rintro e w35 ⟨v339, rfl, ho0, hb⟩; replace HO314 := (zRb HO314 hb); replace HO335 := (zRb HO335 hb); have HO340 := Aside0.mk (Kd.R_lower (Kd.R_new' (Kd.R_new' (Kd.R_new' (Kd.R_new' (Kd.R_new' ho0 (Kd.R_lt (zR HO311))) (Kd.R_lt (zR HO317))) (Kd.R_lt (zR HO323))) (Kd.R_lt (zR HO326))) (Kd.R_lt (zR HO332))) (below_size zb)); replace HO311 := Aside0.mk (Kd.R_elder' (zR HO311) (Kd.R_base ho0) hb); replace HO317 := Aside0.mk (Kd.R_elder' (zR HO317) (Kd.R_base ho0) hb); replace HO323 := Aside0.mk (Kd.R_elder' (zR HO323) (Kd.R_base ho0) hb); replace HO326 := Aside0.mk (Kd.R_elder' (zR HO326) (Kd.R_base ho0) hb); replace HO332 := Aside0.mk (Kd.R_elder' (zR HO332) (Kd.R_base ho0) hb); replace HB := (zB hb); (try clear hb); (try clear hb2); (try clear hk); (try clear hi); (try clear ho0); obtain ⟨Ao36, co36, eo36⟩ := Kd.R_slice HO317.out; subst eo36; obtain ⟨Ao37, co37, eo37⟩ := Kd.R_slice HO340.out; subst eo37) | (go_at_call 18; (with_reducible refine (marginaliaref03_Same.calls k _ _ t315 _ _ t338 true _ ?side1 ?side2 ?side3 ?side4 A10.out).mono ?_); (case side1 => exact zE' (Kd.R_reads' HO317.out).2.2); (case side2 => exact (Kd.R_reads' HO317.out).2.1); (case side3 => exact zE' (Kd.R_reads' HO340.out).2.2); (case side4 => exact (Kd.R_reads' HO340.out).2.1); rintro e w' ⟨rfl, ⟨nd, rfl⟩⟩))
         go_ret; exact ⟨zr, zb⟩
        ·rw [if_neg c17] at H; have c17b0 : (t337 == 0) = false := beq_eq_false_iff_ne.mpr c17; have c17b1 : (t337 != 0) = true := bne_iff_ne.mpr c17; obtain rfl := Option.some.inj H; go_enter Try.func14, Try.ntmps14
         go_wp2_with (first | ((with_reducible refine zG 39 rfl ?_); refine zg 11 Try.func39 ((marginalialaw04_sample.calls k  t309 _ A1.out).mono ?_); rintro e w38 ⟨v310, rfl, ho0, hb⟩; refine ⟨_, rfl, ?_⟩; have HO311 := Aside0.mk (Kd.R_lower ho0 (below_size zb)); replace HB := (zB hb); (try clear hb); (try clear hb2); (try clear hk); (try clear hi); (try clear ho0)) | ((with_reducible refine zD 13 rfl ?_); refine Kd.R_lit k39 _ 39 ?hg (N := 13) ?hd (xs := ([(⟨2, 3, (⟨#[120, 32, 121]⟩ : ByteArray)⟩ : S39)] : List (S39))) (inner := [.int .i64 2, .int .i64 3, .string (⟨#[120, 32, 121]⟩ : ByteArray)]) (ok := fun _ => True) (okp := fun _ => True) ?hr ?hp (fun _ hk => hk) trivial (Below.refl _ _) (Nat.le_refl _) (by simp) ?_; (case hd => rfl); (case hg => rfl); (case hr => first | (go_simp; done) | (go_simp; rfl)); (case hp => exact (Reps.c3 (show Kd.M k39 _ _ _ (⟨2, 3, (⟨#[120, 32, 121]⟩ : ByteArray)⟩ : S39) [.int .i64 2, .int .i64 3, .string (⟨#[120, 32, 121]⟩ : ByteArray)] from (k39_mkM _ _ _ (⟨2, 3, (⟨#[120, 32, 121]⟩ : ByteArray)⟩ : S39) )) (Reps.none _ _))); intro v313 w39 ho40 hb hg_ hnew_; clear hg_ hnew_; (first | rw [← Ny312.out] at ho40 | (simp only [Int.reduceToNat] at ho40; rw [← Ny312.out] at ho40)); replace HO311 := (zRb HO311 hb); have HO314 := Aside0.mk (Kd.R_lower ho40 (below_size zb)); replace HB := (zB hb); clear hb ho40; obtain ⟨Ao41, co41, eo41⟩ := Kd.R_slice HO311.out; subst eo41; obtain ⟨Ao42, co42, eo42⟩ := Kd.R_slice HO314.out; subst eo42) | ((with_reducible refine zG 12 rfl ?_); refine zg 14 Try.func12 ((relex_Relex.calls k (fun k_ => some k_ = (.slice Ao41 t309.length co41 : Value).ownBlock) _ _ t309 _ _ y312 t315 t318 t319 t320 _ ?side1 ?side2 ?side3 A2.out).mono ?_); (case side1 => exact Kd.R_V (Kd.R_tight rfl (Kd.R_apart' (HO311.out) (Kd.R_typed HO314.out) (by decide)))); (case side2 => exact zE' (Kd.R_reads' HO314.out).2.2); (case side3 => exact (Kd.R_reads' HO314.out).2.1); rintro e w43 ⟨v316, rfl, ho0, hb⟩; refine ⟨_, rfl, ?_⟩; replace HO314 := (zRb HO314 hb); have HO317 := Aside0.mk (Kd.R_lower (Kd.R_new' (Kd.R_mono (ok' := fun k_ => True) ho0 (fun _ hk_ => trivial)) (Kd.R_lt (zR HO311))) (below_size zb)); replace HO311 := Aside0.mk (Kd.R_elder' (zR HO311) (Kd.R_base ho0) hb); replace HB := (zB hb); (try clear hb); (try clear hb2); (try clear hk); (try clear hi); (try clear ho0)) | ((with_reducible refine zG 39 rfl ?_); refine zg 20 Try.func39 ((marginalialaw04_sample.calls k  t321 _ A3.out).mono ?_); rintro e w44 ⟨v322, rfl, ho0, hb⟩; refine ⟨_, rfl, ?_⟩; replace HO314 := (zRb HO314 hb); have HO323 := Aside0.mk (Kd.R_lower (Kd.R_new' (Kd.R_new' ho0 (Kd.R_lt (zR HO311))) (Kd.R_lt (zR HO317))) (below_size zb)); replace HO311 := Aside0.mk (Kd.R_elder' (zR HO311) (Kd.R_base ho0) hb); replace HO317 := Aside0.mk (Kd.R_elder' (zR HO317) (Kd.R_base ho0) hb); replace HB := (zB hb); (try clear hb); (try clear hb2); (try clear hk); (try clear hi); (try clear ho0)) | ((with_reducible refine zG 15 rfl ?_); refine zg 21 Try.func15 ((marginaliaref03_Lex.calls k (⟨#[97, 32, 100, 32, 99]⟩ : ByteArray) t324 _ A4.out).mono ?_); rintro e w45 ⟨v325, rfl, ho0, hb⟩; refine ⟨_, rfl, ?_⟩; replace HO314 := (zRb HO314 hb); have HO326 := Aside0.mk (Kd.R_lower (Kd.R_new' (Kd.R_new' (Kd.R_new' ho0 (Kd.R_lt (zR HO311))) (Kd.R_lt (zR HO317))) (Kd.R_lt (zR HO323))) (below_size zb)); replace HO311 := Aside0.mk (Kd.R_elder' (zR HO311) (Kd.R_base ho0) hb); replace HO317 := Aside0.mk (Kd.R_elder' (zR HO317) (Kd.R_base ho0) hb); replace HO323 := Aside0.mk (Kd.R_elder' (zR HO323) (Kd.R_base ho0) hb); replace HB := (zB hb); (try clear hb); (try clear hb2); (try clear hk); (try clear hi); (try clear ho0); obtain ⟨Ao46, co46, eo46⟩ := Kd.R_slice HO323.out; subst eo46; obtain ⟨Ao47, co47, eo47⟩ := Kd.R_slice HO326.out; subst eo47) | ((with_reducible refine zG 21 rfl ?_); refine zg 22 Try.func21 ((relex_Common.calls k _ _ t321 _ _ t324 t327 t328 t329 _ ?side1 ?side2 ?side3 ?side4 A5.out).mono ?_); (case side1 => exact zE' (Kd.R_reads' HO323.out).2.2); (case side2 => exact (Kd.R_reads' HO323.out).2.1); (case side3 => exact zE' (Kd.R_reads' HO326.out).2.2); (case side4 => exact (Kd.R_reads' HO326.out).2.1); rintro e w48 ⟨rfl, hb⟩; refine ⟨_, rfl, ?_⟩; replace HO311 := (zRb HO311 hb); replace HO314 := (zRb HO314 hb); replace HO317 := (zRb HO317 hb); replace HO323 := (zRb HO323 hb); replace HO326 := (zRb HO326 hb); replace HB := (zB hb); (try clear hb); (try clear hb2); (try clear hk); (try clear hi)) | ((with_reducible refine zG 39 rfl ?_); refine zg 27 Try.func39 ((marginalialaw04_sample.calls k  t330 _ A6.out).mono ?_); rintro e w49 ⟨v331, rfl, ho0, hb⟩; refine ⟨_, rfl, ?_⟩; replace HO314 := (zRb HO314 hb); have HO332 := Aside0.mk (Kd.R_lower (Kd.R_new' (Kd.R_new' (Kd.R_new' (Kd.R_new' ho0 (Kd.R_lt (zR HO311))) (Kd.R_lt (zR HO317))) (Kd.R_lt (zR HO323))) (Kd.R_lt (zR HO326))) (below_size zb)); replace HO311 := Aside0.mk (Kd.R_elder' (zR HO311) (Kd.R_base ho0) hb); replace HO317 := Aside0.mk (Kd.R_elder' (zR HO317) (Kd.R_base ho0) hb); replace HO323 := Aside0.mk (Kd.R_elder' (zR HO323) (Kd.R_base ho0) hb); replace HO326 := Aside0.mk (Kd.R_elder' (zR HO326) (Kd.R_base ho0) hb); replace HB := (zB hb); (try clear hb); (try clear hb2); (try clear hk); (try clear hi); (try clear ho0)) | ((with_reducible refine zD 29 rfl ?_); refine Kd.R_lit k39 _ 39 ?hg (N := 29) ?hd (xs := ([(⟨2, 3, (⟨#[120, 10, 121]⟩ : ByteArray)⟩ : S39)] : List (S39))) (inner := [.int .i64 2, .int .i64 3, .string (⟨#[120, 10, 121]⟩ : ByteArray)]) (ok := fun _ => True) (okp := fun _ => True) ?hr ?hp (fun _ hk => hk) trivial (Below.refl _ _) (Nat.le_refl _) (by simp) ?_; (case hd => rfl); (case hg => rfl); (case hr => first | (go_simp; done) | (go_simp; rfl)); (case hp => exact (Reps.c3 (show Kd.M k39 _ _ _ (⟨2, 3, (⟨#[120, 10, 121]⟩ : ByteArray)⟩ : S39) [.int .i64 2, .int .i64 3, .string (⟨#[120, 10, 121]⟩ : ByteArray)] from (k39_mkM _ _ _ (⟨2, 3, (⟨#[120, 10, 121]⟩ : ByteArray)⟩ : S39) )) (Reps.none _ _))); intro v334 w50 ho51 hb hg_ hnew_; clear hg_ hnew_; (first | rw [← Ny333.out] at ho51 | (simp only [Int.reduceToNat] at ho51; rw [← Ny333.out] at ho51)); replace HO311 := (zRb HO311 hb); replace HO317 := (zRb HO317 hb); replace HO323 := (zRb HO323 hb); replace HO326 := (zRb HO326 hb); replace HO332 := (zRb HO332 hb); have HO335 := Aside0.mk (Kd.R_lower (Kd.R_new' ho51 (Kd.R_lt (zR HO314))) (below_size zb)); replace HO314 := Aside0.mk (Kd.R_elder' (zR HO314) (Kd.R_base ho51) hb); replace HB := (zB hb); clear hb ho51; obtain ⟨Ao52, co52, eo52⟩ := Kd.R_slice HO332.out; subst eo52; obtain ⟨Ao53, co53, eo53⟩ := Kd.R_slice HO335.out; subst eo53) | ((with_reducible refine zG 23 rfl ?_); refine zg 30 Try.func23 ((relex_Line.calls k _ _ t330 _ _ y333 t336 t337 _ ?side1 ?side2 ?side3 ?side4 A7.out).mono ?_); (case side1 => exact zE' (Kd.R_reads' HO332.out).2.2); (case side2 => exact (Kd.R_reads' HO332.out).2.1); (case side3 => exact zE' (Kd.R_reads' HO335.out).2.2); (case side4 => exact (Kd.R_reads' HO335.out).2.1); rintro e w54 ⟨rfl, hb⟩; refine ⟨_, rfl, ?_⟩; replace HO311 := (zRb HO311 hb); replace HO314 := (zRb HO314 hb); replace HO317 := (zRb HO317 hb); replace HO323 := (zRb HO323 hb); replace HO326 := (zRb HO326 hb); replace HO332 := (zRb HO332 hb); replace HO335 := (zRb HO335 hb); replace HB := (zB hb); (try clear hb); (try clear hb2); (try clear hk); (try clear hi)) | (go_at_call 15; (with_reducible refine (marginaliaref03_Lex.calls k (⟨#[97, 32, 120, 32, 121, 32, 99]⟩ : ByteArray) t338 _ A9.out).mono ?_); rintro e w55 ⟨v339, rfl, ho0, hb⟩; replace HO314 := (zRb HO314 hb); replace HO335 := (zRb HO335 hb); have HO340 := Aside0.mk (Kd.R_lower (Kd.R_new' (Kd.R_new' (Kd.R_new' (Kd.R_new' (Kd.R_new' ho0 (Kd.R_lt (zR HO311))) (Kd.R_lt (zR HO317))) (Kd.R_lt (zR HO323))) (Kd.R_lt (zR HO326))) (Kd.R_lt (zR HO332))) (below_size zb)); replace HO311 := Aside0.mk (Kd.R_elder' (zR HO311) (Kd.R_base ho0) hb); replace HO317 := Aside0.mk (Kd.R_elder' (zR HO317) (Kd.R_base ho0) hb); replace HO323 := Aside0.mk (Kd.R_elder' (zR HO323) (Kd.R_base ho0) hb); replace HO326 := Aside0.mk (Kd.R_elder' (zR HO326) (Kd.R_base ho0) hb); replace HO332 := Aside0.mk (Kd.R_elder' (zR HO332) (Kd.R_base ho0) hb); replace HB := (zB hb); (try clear hb); (try clear hb2); (try clear hk); (try clear hi); (try clear ho0); obtain ⟨Ao56, co56, eo56⟩ := Kd.R_slice HO317.out; subst eo56; obtain ⟨Ao57, co57, eo57⟩ := Kd.R_slice HO340.out; subst eo57) | (go_at_call 18; (with_reducible refine (marginaliaref03_Same.calls k _ _ t315 _ _ t338 true _ ?side1 ?side2 ?side3 ?side4 A10.out).mono ?_); (case side1 => exact zE' (Kd.R_reads' HO317.out).2.2); (case side2 => exact (Kd.R_reads' HO317.out).2.1); (case side3 => exact zE' (Kd.R_reads' HO340.out).2.2); (case side4 => exact (Kd.R_reads' HO340.out).2.1); rintro e w' ⟨rfl, ⟨nd, rfl⟩⟩))
         go_ret; exact ⟨zr, zb⟩
       ·rw [if_neg c16] at H; have c16b0 : (t328 == 2) = false := beq_eq_false_iff_ne.mpr c16; have c16b1 : (t328 != 2) = true := bne_iff_ne.mpr c16; obtain rfl := Option.some.inj H; go_enter Try.func14, Try.ntmps14
        go_wp2_with (first | ((with_reducible refine zG 39 rfl ?_); refine zg 11 Try.func39 ((marginalialaw04_sample.calls k  t309 _ A1.out).mono ?_); rintro e w58 ⟨v310, rfl, ho0, hb⟩; refine ⟨_, rfl, ?_⟩; have HO311 := Aside0.mk (Kd.R_lower ho0 (below_size zb)); replace HB := (zB hb); (try clear hb); (try clear hb2); (try clear hk); (try clear hi); (try clear ho0)) | ((with_reducible refine zD 13 rfl ?_); refine Kd.R_lit k39 _ 39 ?hg (N := 13) ?hd (xs := ([(⟨2, 3, (⟨#[120, 32, 121]⟩ : ByteArray)⟩ : S39)] : List (S39))) (inner := [.int .i64 2, .int .i64 3, .string (⟨#[120, 32, 121]⟩ : ByteArray)]) (ok := fun _ => True) (okp := fun _ => True) ?hr ?hp (fun _ hk => hk) trivial (Below.refl _ _) (Nat.le_refl _) (by simp) ?_; (case hd => rfl); (case hg => rfl); (case hr => first | (go_simp; done) | (go_simp; rfl)); (case hp => exact (Reps.c3 (show Kd.M k39 _ _ _ (⟨2, 3, (⟨#[120, 32, 121]⟩ : ByteArray)⟩ : S39) [.int .i64 2, .int .i64 3, .string (⟨#[120, 32, 121]⟩ : ByteArray)] from (k39_mkM _ _ _ (⟨2, 3, (⟨#[120, 32, 121]⟩ : ByteArray)⟩ : S39) )) (Reps.none _ _))); intro v313 w59 ho60 hb hg_ hnew_; clear hg_ hnew_; (first | rw [← Ny312.out] at ho60 | (simp only [Int.reduceToNat] at ho60; rw [← Ny312.out] at ho60)); replace HO311 := (zRb HO311 hb); have HO314 := Aside0.mk (Kd.R_lower ho60 (below_size zb)); replace HB := (zB hb); clear hb ho60; obtain ⟨Ao61, co61, eo61⟩ := Kd.R_slice HO311.out; subst eo61; obtain ⟨Ao62, co62, eo62⟩ := Kd.R_slice HO314.out; subst eo62) | ((with_reducible refine zG 12 rfl ?_); refine zg 14 Try.func12 ((relex_Relex.calls k (fun k_ => some k_ = (.slice Ao61 t309.length co61 : Value).ownBlock) _ _ t309 _ _ y312 t315 t318 t319 t320 _ ?side1 ?side2 ?side3 A2.out).mono ?_); (case side1 => exact Kd.R_V (Kd.R_tight rfl (Kd.R_apart' (HO311.out) (Kd.R_typed HO314.out) (by decide)))); (case side2 => exact zE' (Kd.R_reads' HO314.out).2.2); (case side3 => exact (Kd.R_reads' HO314.out).2.1); rintro e w63 ⟨v316, rfl, ho0, hb⟩; refine ⟨_, rfl, ?_⟩; replace HO314 := (zRb HO314 hb); have HO317 := Aside0.mk (Kd.R_lower (Kd.R_new' (Kd.R_mono (ok' := fun k_ => True) ho0 (fun _ hk_ => trivial)) (Kd.R_lt (zR HO311))) (below_size zb)); replace HO311 := Aside0.mk (Kd.R_elder' (zR HO311) (Kd.R_base ho0) hb); replace HB := (zB hb); (try clear hb); (try clear hb2); (try clear hk); (try clear hi); (try clear ho0)) | ((with_reducible refine zG 39 rfl ?_); refine zg 20 Try.func39 ((marginalialaw04_sample.calls k  t321 _ A3.out).mono ?_); rintro e w64 ⟨v322, rfl, ho0, hb⟩; refine ⟨_, rfl, ?_⟩; replace HO314 := (zRb HO314 hb); have HO323 := Aside0.mk (Kd.R_lower (Kd.R_new' (Kd.R_new' ho0 (Kd.R_lt (zR HO311))) (Kd.R_lt (zR HO317))) (below_size zb)); replace HO311 := Aside0.mk (Kd.R_elder' (zR HO311) (Kd.R_base ho0) hb); replace HO317 := Aside0.mk (Kd.R_elder' (zR HO317) (Kd.R_base ho0) hb); replace HB := (zB hb); (try clear hb); (try clear hb2); (try clear hk); (try clear hi); (try clear ho0)) | ((with_reducible refine zG 15 rfl ?_); refine zg 21 Try.func15 ((marginaliaref03_Lex.calls k (⟨#[97, 32, 100, 32, 99]⟩ : ByteArray) t324 _ A4.out).mono ?_); rintro e w65 ⟨v325, rfl, ho0, hb⟩; refine ⟨_, rfl, ?_⟩; replace HO314 := (zRb HO314 hb); have HO326 := Aside0.mk (Kd.R_lower (Kd.R_new' (Kd.R_new' (Kd.R_new' ho0 (Kd.R_lt (zR HO311))) (Kd.R_lt (zR HO317))) (Kd.R_lt (zR HO323))) (below_size zb)); replace HO311 := Aside0.mk (Kd.R_elder' (zR HO311) (Kd.R_base ho0) hb); replace HO317 := Aside0.mk (Kd.R_elder' (zR HO317) (Kd.R_base ho0) hb); replace HO323 := Aside0.mk (Kd.R_elder' (zR HO323) (Kd.R_base ho0) hb); replace HB := (zB hb); (try clear hb); (try clear hb2); (try clear hk); (try clear hi); (try clear ho0); obtain ⟨Ao66, co66, eo66⟩ := Kd.R_slice HO323.out; subst eo66; obtain ⟨Ao67, co67, eo67⟩ := Kd.R_slice HO326.out; subst eo67) | ((with_reducible refine zG 21 rfl ?_); refine zg 22 Try.func21 ((relex_Common.calls k _ _ t321 _ _ t324 t327 t328 t329 _ ?side1 ?side2 ?side3 ?side4 A5.out).mono ?_); (case side1 => exact zE' (Kd.R_reads' HO323.out).2.2); (case side2 => exact (Kd.R_reads' HO323.out).2.1); (case side3 => exact zE' (Kd.R_reads' HO326.out).2.2); (case side4 => exact (Kd.R_reads' HO326.out).2.1); rintro e w68 ⟨rfl, hb⟩; refine ⟨_, rfl, ?_⟩; replace HO311 := (zRb HO311 hb); replace HO314 := (zRb HO314 hb); replace HO317 := (zRb HO317 hb); replace HO323 := (zRb HO323 hb); replace HO326 := (zRb HO326 hb); replace HB := (zB hb); (try clear hb); (try clear hb2); (try clear hk); (try clear hi)) | ((with_reducible refine zG 39 rfl ?_); refine zg 27 Try.func39 ((marginalialaw04_sample.calls k  t330 _ A6.out).mono ?_); rintro e w69 ⟨v331, rfl, ho0, hb⟩; refine ⟨_, rfl, ?_⟩; replace HO314 := (zRb HO314 hb); have HO332 := Aside0.mk (Kd.R_lower (Kd.R_new' (Kd.R_new' (Kd.R_new' (Kd.R_new' ho0 (Kd.R_lt (zR HO311))) (Kd.R_lt (zR HO317))) (Kd.R_lt (zR HO323))) (Kd.R_lt (zR HO326))) (below_size zb)); replace HO311 := Aside0.mk (Kd.R_elder' (zR HO311) (Kd.R_base ho0) hb); replace HO317 := Aside0.mk (Kd.R_elder' (zR HO317) (Kd.R_base ho0) hb); replace HO323 := Aside0.mk (Kd.R_elder' (zR HO323) (Kd.R_base ho0) hb); replace HO326 := Aside0.mk (Kd.R_elder' (zR HO326) (Kd.R_base ho0) hb); replace HB := (zB hb); (try clear hb); (try clear hb2); (try clear hk); (try clear hi); (try clear ho0)) | ((with_reducible refine zD 29 rfl ?_); refine Kd.R_lit k39 _ 39 ?hg (N := 29) ?hd (xs := ([(⟨2, 3, (⟨#[120, 10, 121]⟩ : ByteArray)⟩ : S39)] : List (S39))) (inner := [.int .i64 2, .int .i64 3, .string (⟨#[120, 10, 121]⟩ : ByteArray)]) (ok := fun _ => True) (okp := fun _ => True) ?hr ?hp (fun _ hk => hk) trivial (Below.refl _ _) (Nat.le_refl _) (by simp) ?_; (case hd => rfl); (case hg => rfl); (case hr => first | (go_simp; done) | (go_simp; rfl)); (case hp => exact (Reps.c3 (show Kd.M k39 _ _ _ (⟨2, 3, (⟨#[120, 10, 121]⟩ : ByteArray)⟩ : S39) [.int .i64 2, .int .i64 3, .string (⟨#[120, 10, 121]⟩ : ByteArray)] from (k39_mkM _ _ _ (⟨2, 3, (⟨#[120, 10, 121]⟩ : ByteArray)⟩ : S39) )) (Reps.none _ _))); intro v334 w70 ho71 hb hg_ hnew_; clear hg_ hnew_; (first | rw [← Ny333.out] at ho71 | (simp only [Int.reduceToNat] at ho71; rw [← Ny333.out] at ho71)); replace HO311 := (zRb HO311 hb); replace HO317 := (zRb HO317 hb); replace HO323 := (zRb HO323 hb); replace HO326 := (zRb HO326 hb); replace HO332 := (zRb HO332 hb); have HO335 := Aside0.mk (Kd.R_lower (Kd.R_new' ho71 (Kd.R_lt (zR HO314))) (below_size zb)); replace HO314 := Aside0.mk (Kd.R_elder' (zR HO314) (Kd.R_base ho71) hb); replace HB := (zB hb); clear hb ho71; obtain ⟨Ao72, co72, eo72⟩ := Kd.R_slice HO332.out; subst eo72; obtain ⟨Ao73, co73, eo73⟩ := Kd.R_slice HO335.out; subst eo73) | ((with_reducible refine zG 23 rfl ?_); refine zg 30 Try.func23 ((relex_Line.calls k _ _ t330 _ _ y333 t336 t337 _ ?side1 ?side2 ?side3 ?side4 A7.out).mono ?_); (case side1 => exact zE' (Kd.R_reads' HO332.out).2.2); (case side2 => exact (Kd.R_reads' HO332.out).2.1); (case side3 => exact zE' (Kd.R_reads' HO335.out).2.2); (case side4 => exact (Kd.R_reads' HO335.out).2.1); rintro e w74 ⟨rfl, hb⟩; refine ⟨_, rfl, ?_⟩; replace HO311 := (zRb HO311 hb); replace HO314 := (zRb HO314 hb); replace HO317 := (zRb HO317 hb); replace HO323 := (zRb HO323 hb); replace HO326 := (zRb HO326 hb); replace HO332 := (zRb HO332 hb); replace HO335 := (zRb HO335 hb); replace HB := (zB hb); (try clear hb); (try clear hb2); (try clear hk); (try clear hi)) | (go_at_call 15; (with_reducible refine (marginaliaref03_Lex.calls k (⟨#[97, 32, 120, 32, 121, 32, 99]⟩ : ByteArray) t338 _ A9.out).mono ?_); rintro e w75 ⟨v339, rfl, ho0, hb⟩; replace HO314 := (zRb HO314 hb); replace HO335 := (zRb HO335 hb); have HO340 := Aside0.mk (Kd.R_lower (Kd.R_new' (Kd.R_new' (Kd.R_new' (Kd.R_new' (Kd.R_new' ho0 (Kd.R_lt (zR HO311))) (Kd.R_lt (zR HO317))) (Kd.R_lt (zR HO323))) (Kd.R_lt (zR HO326))) (Kd.R_lt (zR HO332))) (below_size zb)); replace HO311 := Aside0.mk (Kd.R_elder' (zR HO311) (Kd.R_base ho0) hb); replace HO317 := Aside0.mk (Kd.R_elder' (zR HO317) (Kd.R_base ho0) hb); replace HO323 := Aside0.mk (Kd.R_elder' (zR HO323) (Kd.R_base ho0) hb); replace HO326 := Aside0.mk (Kd.R_elder' (zR HO326) (Kd.R_base ho0) hb); replace HO332 := Aside0.mk (Kd.R_elder' (zR HO332) (Kd.R_base ho0) hb); replace HB := (zB hb); (try clear hb); (try clear hb2); (try clear hk); (try clear hi); (try clear ho0); obtain ⟨Ao76, co76, eo76⟩ := Kd.R_slice HO317.out; subst eo76; obtain ⟨Ao77, co77, eo77⟩ := Kd.R_slice HO340.out; subst eo77) | (go_at_call 18; (with_reducible refine (marginaliaref03_Same.calls k _ _ t315 _ _ t338 true _ ?side1 ?side2 ?side3 ?side4 A10.out).mono ?_); (case side1 => exact zE' (Kd.R_reads' HO317.out).2.2); (case side2 => exact (Kd.R_reads' HO317.out).2.1); (case side3 => exact zE' (Kd.R_reads' HO340.out).2.2); (case side4 => exact (Kd.R_reads' HO340.out).2.1); rintro e w' ⟨rfl, ⟨nd, rfl⟩⟩))
        go_ret; exact ⟨zr, zb⟩
      ·rw [if_neg c15] at H; have c15b0 : (t327 == 2) = false := beq_eq_false_iff_ne.mpr c15; have c15b1 : (t327 != 2) = true := bne_iff_ne.mpr c15; obtain rfl := Option.some.inj H; go_enter Try.func14, Try.ntmps14
       go_wp2_with (first | ((with_reducible refine zG 39 rfl ?_); refine zg 11 Try.func39 ((marginalialaw04_sample.calls k  t309 _ A1.out).mono ?_); rintro e w78 ⟨v310, rfl, ho0, hb⟩; refine ⟨_, rfl, ?_⟩; have HO311 := Aside0.mk (Kd.R_lower ho0 (below_size zb)); replace HB := (zB hb); (try clear hb); (try clear hb2); (try clear hk); (try clear hi); (try clear ho0)) | ((with_reducible refine zD 13 rfl ?_); refine Kd.R_lit k39 _ 39 ?hg (N := 13) ?hd (xs := ([(⟨2, 3, (⟨#[120, 32, 121]⟩ : ByteArray)⟩ : S39)] : List (S39))) (inner := [.int .i64 2, .int .i64 3, .string (⟨#[120, 32, 121]⟩ : ByteArray)]) (ok := fun _ => True) (okp := fun _ => True) ?hr ?hp (fun _ hk => hk) trivial (Below.refl _ _) (Nat.le_refl _) (by simp) ?_; (case hd => rfl); (case hg => rfl); (case hr => first | (go_simp; done) | (go_simp; rfl)); (case hp => exact (Reps.c3 (show Kd.M k39 _ _ _ (⟨2, 3, (⟨#[120, 32, 121]⟩ : ByteArray)⟩ : S39) [.int .i64 2, .int .i64 3, .string (⟨#[120, 32, 121]⟩ : ByteArray)] from (k39_mkM _ _ _ (⟨2, 3, (⟨#[120, 32, 121]⟩ : ByteArray)⟩ : S39) )) (Reps.none _ _))); intro v313 w79 ho80 hb hg_ hnew_; clear hg_ hnew_; (first | rw [← Ny312.out] at ho80 | (simp only [Int.reduceToNat] at ho80; rw [← Ny312.out] at ho80)); replace HO311 := (zRb HO311 hb); have HO314 := Aside0.mk (Kd.R_lower ho80 (below_size zb)); replace HB := (zB hb); clear hb ho80; obtain ⟨Ao81, co81, eo81⟩ := Kd.R_slice HO311.out; subst eo81; obtain ⟨Ao82, co82, eo82⟩ := Kd.R_slice HO314.out; subst eo82) | ((with_reducible refine zG 12 rfl ?_); refine zg 14 Try.func12 ((relex_Relex.calls k (fun k_ => some k_ = (.slice Ao81 t309.length co81 : Value).ownBlock) _ _ t309 _ _ y312 t315 t318 t319 t320 _ ?side1 ?side2 ?side3 A2.out).mono ?_); (case side1 => exact Kd.R_V (Kd.R_tight rfl (Kd.R_apart' (HO311.out) (Kd.R_typed HO314.out) (by decide)))); (case side2 => exact zE' (Kd.R_reads' HO314.out).2.2); (case side3 => exact (Kd.R_reads' HO314.out).2.1); rintro e w83 ⟨v316, rfl, ho0, hb⟩; refine ⟨_, rfl, ?_⟩; replace HO314 := (zRb HO314 hb); have HO317 := Aside0.mk (Kd.R_lower (Kd.R_new' (Kd.R_mono (ok' := fun k_ => True) ho0 (fun _ hk_ => trivial)) (Kd.R_lt (zR HO311))) (below_size zb)); replace HO311 := Aside0.mk (Kd.R_elder' (zR HO311) (Kd.R_base ho0) hb); replace HB := (zB hb); (try clear hb); (try clear hb2); (try clear hk); (try clear hi); (try clear ho0)) | ((with_reducible refine zG 39 rfl ?_); refine zg 20 Try.func39 ((marginalialaw04_sample.calls k  t321 _ A3.out).mono ?_); rintro e w84 ⟨v322, rfl, ho0, hb⟩; refine ⟨_, rfl, ?_⟩; replace HO314 := (zRb HO314 hb); have HO323 := Aside0.mk (Kd.R_lower (Kd.R_new' (Kd.R_new' ho0 (Kd.R_lt (zR HO311))) (Kd.R_lt (zR HO317))) (below_size zb)); replace HO311 := Aside0.mk (Kd.R_elder' (zR HO311) (Kd.R_base ho0) hb); replace HO317 := Aside0.mk (Kd.R_elder' (zR HO317) (Kd.R_base ho0) hb); replace HB := (zB hb); (try clear hb); (try clear hb2); (try clear hk); (try clear hi); (try clear ho0)) | ((with_reducible refine zG 15 rfl ?_); refine zg 21 Try.func15 ((marginaliaref03_Lex.calls k (⟨#[97, 32, 100, 32, 99]⟩ : ByteArray) t324 _ A4.out).mono ?_); rintro e w85 ⟨v325, rfl, ho0, hb⟩; refine ⟨_, rfl, ?_⟩; replace HO314 := (zRb HO314 hb); have HO326 := Aside0.mk (Kd.R_lower (Kd.R_new' (Kd.R_new' (Kd.R_new' ho0 (Kd.R_lt (zR HO311))) (Kd.R_lt (zR HO317))) (Kd.R_lt (zR HO323))) (below_size zb)); replace HO311 := Aside0.mk (Kd.R_elder' (zR HO311) (Kd.R_base ho0) hb); replace HO317 := Aside0.mk (Kd.R_elder' (zR HO317) (Kd.R_base ho0) hb); replace HO323 := Aside0.mk (Kd.R_elder' (zR HO323) (Kd.R_base ho0) hb); replace HB := (zB hb); (try clear hb); (try clear hb2); (try clear hk); (try clear hi); (try clear ho0); obtain ⟨Ao86, co86, eo86⟩ := Kd.R_slice HO323.out; subst eo86; obtain ⟨Ao87, co87, eo87⟩ := Kd.R_slice HO326.out; subst eo87) | ((with_reducible refine zG 21 rfl ?_); refine zg 22 Try.func21 ((relex_Common.calls k _ _ t321 _ _ t324 t327 t328 t329 _ ?side1 ?side2 ?side3 ?side4 A5.out).mono ?_); (case side1 => exact zE' (Kd.R_reads' HO323.out).2.2); (case side2 => exact (Kd.R_reads' HO323.out).2.1); (case side3 => exact zE' (Kd.R_reads' HO326.out).2.2); (case side4 => exact (Kd.R_reads' HO326.out).2.1); rintro e w88 ⟨rfl, hb⟩; refine ⟨_, rfl, ?_⟩; replace HO311 := (zRb HO311 hb); replace HO314 := (zRb HO314 hb); replace HO317 := (zRb HO317 hb); replace HO323 := (zRb HO323 hb); replace HO326 := (zRb HO326 hb); replace HB := (zB hb); (try clear hb); (try clear hb2); (try clear hk); (try clear hi)) | ((with_reducible refine zG 39 rfl ?_); refine zg 27 Try.func39 ((marginalialaw04_sample.calls k  t330 _ A6.out).mono ?_); rintro e w89 ⟨v331, rfl, ho0, hb⟩; refine ⟨_, rfl, ?_⟩; replace HO314 := (zRb HO314 hb); have HO332 := Aside0.mk (Kd.R_lower (Kd.R_new' (Kd.R_new' (Kd.R_new' (Kd.R_new' ho0 (Kd.R_lt (zR HO311))) (Kd.R_lt (zR HO317))) (Kd.R_lt (zR HO323))) (Kd.R_lt (zR HO326))) (below_size zb)); replace HO311 := Aside0.mk (Kd.R_elder' (zR HO311) (Kd.R_base ho0) hb); replace HO317 := Aside0.mk (Kd.R_elder' (zR HO317) (Kd.R_base ho0) hb); replace HO323 := Aside0.mk (Kd.R_elder' (zR HO323) (Kd.R_base ho0) hb); replace HO326 := Aside0.mk (Kd.R_elder' (zR HO326) (Kd.R_base ho0) hb); replace HB := (zB hb); (try clear hb); (try clear hb2); (try clear hk); (try clear hi); (try clear ho0)) | ((with_reducible refine zD 29 rfl ?_); refine Kd.R_lit k39 _ 39 ?hg (N := 29) ?hd (xs := ([(⟨2, 3, (⟨#[120, 10, 121]⟩ : ByteArray)⟩ : S39)] : List (S39))) (inner := [.int .i64 2, .int .i64 3, .string (⟨#[120, 10, 121]⟩ : ByteArray)]) (ok := fun _ => True) (okp := fun _ => True) ?hr ?hp (fun _ hk => hk) trivial (Below.refl _ _) (Nat.le_refl _) (by simp) ?_; (case hd => rfl); (case hg => rfl); (case hr => first | (go_simp; done) | (go_simp; rfl)); (case hp => exact (Reps.c3 (show Kd.M k39 _ _ _ (⟨2, 3, (⟨#[120, 10, 121]⟩ : ByteArray)⟩ : S39) [.int .i64 2, .int .i64 3, .string (⟨#[120, 10, 121]⟩ : ByteArray)] from (k39_mkM _ _ _ (⟨2, 3, (⟨#[120, 10, 121]⟩ : ByteArray)⟩ : S39) )) (Reps.none _ _))); intro v334 w90 ho91 hb hg_ hnew_; clear hg_ hnew_; (first | rw [← Ny333.out] at ho91 | (simp only [Int.reduceToNat] at ho91; rw [← Ny333.out] at ho91)); replace HO311 := (zRb HO311 hb); replace HO317 := (zRb HO317 hb); replace HO323 := (zRb HO323 hb); replace HO326 := (zRb HO326 hb); replace HO332 := (zRb HO332 hb); have HO335 := Aside0.mk (Kd.R_lower (Kd.R_new' ho91 (Kd.R_lt (zR HO314))) (below_size zb)); replace HO314 := Aside0.mk (Kd.R_elder' (zR HO314) (Kd.R_base ho91) hb); replace HB := (zB hb); clear hb ho91; obtain ⟨Ao92, co92, eo92⟩ := Kd.R_slice HO332.out; subst eo92; obtain ⟨Ao93, co93, eo93⟩ := Kd.R_slice HO335.out; subst eo93) | ((with_reducible refine zG 23 rfl ?_); refine zg 30 Try.func23 ((relex_Line.calls k _ _ t330 _ _ y333 t336 t337 _ ?side1 ?side2 ?side3 ?side4 A7.out).mono ?_); (case side1 => exact zE' (Kd.R_reads' HO332.out).2.2); (case side2 => exact (Kd.R_reads' HO332.out).2.1); (case side3 => exact zE' (Kd.R_reads' HO335.out).2.2); (case side4 => exact (Kd.R_reads' HO335.out).2.1); rintro e w94 ⟨rfl, hb⟩; refine ⟨_, rfl, ?_⟩; replace HO311 := (zRb HO311 hb); replace HO314 := (zRb HO314 hb); replace HO317 := (zRb HO317 hb); replace HO323 := (zRb HO323 hb); replace HO326 := (zRb HO326 hb); replace HO332 := (zRb HO332 hb); replace HO335 := (zRb HO335 hb); replace HB := (zB hb); (try clear hb); (try clear hb2); (try clear hk); (try clear hi)) | (go_at_call 15; (with_reducible refine (marginaliaref03_Lex.calls k (⟨#[97, 32, 120, 32, 121, 32, 99]⟩ : ByteArray) t338 _ A9.out).mono ?_); rintro e w95 ⟨v339, rfl, ho0, hb⟩; replace HO314 := (zRb HO314 hb); replace HO335 := (zRb HO335 hb); have HO340 := Aside0.mk (Kd.R_lower (Kd.R_new' (Kd.R_new' (Kd.R_new' (Kd.R_new' (Kd.R_new' ho0 (Kd.R_lt (zR HO311))) (Kd.R_lt (zR HO317))) (Kd.R_lt (zR HO323))) (Kd.R_lt (zR HO326))) (Kd.R_lt (zR HO332))) (below_size zb)); replace HO311 := Aside0.mk (Kd.R_elder' (zR HO311) (Kd.R_base ho0) hb); replace HO317 := Aside0.mk (Kd.R_elder' (zR HO317) (Kd.R_base ho0) hb); replace HO323 := Aside0.mk (Kd.R_elder' (zR HO323) (Kd.R_base ho0) hb); replace HO326 := Aside0.mk (Kd.R_elder' (zR HO326) (Kd.R_base ho0) hb); replace HO332 := Aside0.mk (Kd.R_elder' (zR HO332) (Kd.R_base ho0) hb); replace HB := (zB hb); (try clear hb); (try clear hb2); (try clear hk); (try clear hi); (try clear ho0); obtain ⟨Ao96, co96, eo96⟩ := Kd.R_slice HO317.out; subst eo96; obtain ⟨Ao97, co97, eo97⟩ := Kd.R_slice HO340.out; subst eo97) | (go_at_call 18; (with_reducible refine (marginaliaref03_Same.calls k _ _ t315 _ _ t338 true _ ?side1 ?side2 ?side3 ?side4 A10.out).mono ?_); (case side1 => exact zE' (Kd.R_reads' HO317.out).2.2); (case side2 => exact (Kd.R_reads' HO317.out).2.1); (case side3 => exact zE' (Kd.R_reads' HO340.out).2.2); (case side4 => exact (Kd.R_reads' HO340.out).2.1); rintro e w' ⟨rfl, ⟨nd, rfl⟩⟩))
       go_ret; exact ⟨zr, zb⟩
     ·rw [if_neg c14] at H; have c14b0 : (t329 == 0) = false := beq_eq_false_iff_ne.mpr c14; have c14b1 : (t329 != 0) = true := bne_iff_ne.mpr c14; obtain rfl := Option.some.inj H; go_enter Try.func14, Try.ntmps14
      go_wp2_with (first | ((with_reducible refine zG 39 rfl ?_); refine zg 11 Try.func39 ((marginalialaw04_sample.calls k  t309 _ A1.out).mono ?_); rintro e w98 ⟨v310, rfl, ho0, hb⟩; refine ⟨_, rfl, ?_⟩; have HO311 := Aside0.mk (Kd.R_lower ho0 (below_size zb)); replace HB := (zB hb); (try clear hb); (try clear hb2); (try clear hk); (try clear hi); (try clear ho0)) | ((with_reducible refine zD 13 rfl ?_); refine Kd.R_lit k39 _ 39 ?hg (N := 13) ?hd (xs := ([(⟨2, 3, (⟨#[120, 32, 121]⟩ : ByteArray)⟩ : S39)] : List (S39))) (inner := [.int .i64 2, .int .i64 3, .string (⟨#[120, 32, 121]⟩ : ByteArray)]) (ok := fun _ => True) (okp := fun _ => True) ?hr ?hp (fun _ hk => hk) trivial (Below.refl _ _) (Nat.le_refl _) (by simp) ?_; (case hd => rfl); (case hg => rfl); (case hr => first | (go_simp; done) | (go_simp; rfl)); (case hp => exact (Reps.c3 (show Kd.M k39 _ _ _ (⟨2, 3, (⟨#[120, 32, 121]⟩ : ByteArray)⟩ : S39) [.int .i64 2, .int .i64 3, .string (⟨#[120, 32, 121]⟩ : ByteArray)] from (k39_mkM _ _ _ (⟨2, 3, (⟨#[120, 32, 121]⟩ : ByteArray)⟩ : S39) )) (Reps.none _ _))); intro v313 w99 ho100 hb hg_ hnew_; clear hg_ hnew_; (first | rw [← Ny312.out] at ho100 | (simp only [Int.reduceToNat] at ho100; rw [← Ny312.out] at ho100)); replace HO311 := (zRb HO311 hb); have HO314 := Aside0.mk (Kd.R_lower ho100 (below_size zb)); replace HB := (zB hb); clear hb ho100; obtain ⟨Ao101, co101, eo101⟩ := Kd.R_slice HO311.out; subst eo101; obtain ⟨Ao102, co102, eo102⟩ := Kd.R_slice HO314.out; subst eo102) | ((with_reducible refine zG 12 rfl ?_); refine zg 14 Try.func12 ((relex_Relex.calls k (fun k_ => some k_ = (.slice Ao101 t309.length co101 : Value).ownBlock) _ _ t309 _ _ y312 t315 t318 t319 t320 _ ?side1 ?side2 ?side3 A2.out).mono ?_); (case side1 => exact Kd.R_V (Kd.R_tight rfl (Kd.R_apart' (HO311.out) (Kd.R_typed HO314.out) (by decide)))); (case side2 => exact zE' (Kd.R_reads' HO314.out).2.2); (case side3 => exact (Kd.R_reads' HO314.out).2.1); rintro e w103 ⟨v316, rfl, ho0, hb⟩; refine ⟨_, rfl, ?_⟩; replace HO314 := (zRb HO314 hb); have HO317 := Aside0.mk (Kd.R_lower (Kd.R_new' (Kd.R_mono (ok' := fun k_ => True) ho0 (fun _ hk_ => trivial)) (Kd.R_lt (zR HO311))) (below_size zb)); replace HO311 := Aside0.mk (Kd.R_elder' (zR HO311) (Kd.R_base ho0) hb); replace HB := (zB hb); (try clear hb); (try clear hb2); (try clear hk); (try clear hi); (try clear ho0)) | ((with_reducible refine zG 39 rfl ?_); refine zg 20 Try.func39 ((marginalialaw04_sample.calls k  t321 _ A3.out).mono ?_); rintro e w104 ⟨v322, rfl, ho0, hb⟩; refine ⟨_, rfl, ?_⟩; replace HO314 := (zRb HO314 hb); have HO323 := Aside0.mk (Kd.R_lower (Kd.R_new' (Kd.R_new' ho0 (Kd.R_lt (zR HO311))) (Kd.R_lt (zR HO317))) (below_size zb)); replace HO311 := Aside0.mk (Kd.R_elder' (zR HO311) (Kd.R_base ho0) hb); replace HO317 := Aside0.mk (Kd.R_elder' (zR HO317) (Kd.R_base ho0) hb); replace HB := (zB hb); (try clear hb); (try clear hb2); (try clear hk); (try clear hi); (try clear ho0)) | ((with_reducible refine zG 15 rfl ?_); refine zg 21 Try.func15 ((marginaliaref03_Lex.calls k (⟨#[97, 32, 100, 32, 99]⟩ : ByteArray) t324 _ A4.out).mono ?_); rintro e w105 ⟨v325, rfl, ho0, hb⟩; refine ⟨_, rfl, ?_⟩; replace HO314 := (zRb HO314 hb); have HO326 := Aside0.mk (Kd.R_lower (Kd.R_new' (Kd.R_new' (Kd.R_new' ho0 (Kd.R_lt (zR HO311))) (Kd.R_lt (zR HO317))) (Kd.R_lt (zR HO323))) (below_size zb)); replace HO311 := Aside0.mk (Kd.R_elder' (zR HO311) (Kd.R_base ho0) hb); replace HO317 := Aside0.mk (Kd.R_elder' (zR HO317) (Kd.R_base ho0) hb); replace HO323 := Aside0.mk (Kd.R_elder' (zR HO323) (Kd.R_base ho0) hb); replace HB := (zB hb); (try clear hb); (try clear hb2); (try clear hk); (try clear hi); (try clear ho0); obtain ⟨Ao106, co106, eo106⟩ := Kd.R_slice HO323.out; subst eo106; obtain ⟨Ao107, co107, eo107⟩ := Kd.R_slice HO326.out; subst eo107) | ((with_reducible refine zG 21 rfl ?_); refine zg 22 Try.func21 ((relex_Common.calls k _ _ t321 _ _ t324 t327 t328 t329 _ ?side1 ?side2 ?side3 ?side4 A5.out).mono ?_); (case side1 => exact zE' (Kd.R_reads' HO323.out).2.2); (case side2 => exact (Kd.R_reads' HO323.out).2.1); (case side3 => exact zE' (Kd.R_reads' HO326.out).2.2); (case side4 => exact (Kd.R_reads' HO326.out).2.1); rintro e w108 ⟨rfl, hb⟩; refine ⟨_, rfl, ?_⟩; replace HO311 := (zRb HO311 hb); replace HO314 := (zRb HO314 hb); replace HO317 := (zRb HO317 hb); replace HO323 := (zRb HO323 hb); replace HO326 := (zRb HO326 hb); replace HB := (zB hb); (try clear hb); (try clear hb2); (try clear hk); (try clear hi)) | ((with_reducible refine zG 39 rfl ?_); refine zg 27 Try.func39 ((marginalialaw04_sample.calls k  t330 _ A6.out).mono ?_); rintro e w109 ⟨v331, rfl, ho0, hb⟩; refine ⟨_, rfl, ?_⟩; replace HO314 := (zRb HO314 hb); have HO332 := Aside0.mk (Kd.R_lower (Kd.R_new' (Kd.R_new' (Kd.R_new' (Kd.R_new' ho0 (Kd.R_lt (zR HO311))) (Kd.R_lt (zR HO317))) (Kd.R_lt (zR HO323))) (Kd.R_lt (zR HO326))) (below_size zb)); replace HO311 := Aside0.mk (Kd.R_elder' (zR HO311) (Kd.R_base ho0) hb); replace HO317 := Aside0.mk (Kd.R_elder' (zR HO317) (Kd.R_base ho0) hb); replace HO323 := Aside0.mk (Kd.R_elder' (zR HO323) (Kd.R_base ho0) hb); replace HO326 := Aside0.mk (Kd.R_elder' (zR HO326) (Kd.R_base ho0) hb); replace HB := (zB hb); (try clear hb); (try clear hb2); (try clear hk); (try clear hi); (try clear ho0)) | ((with_reducible refine zD 29 rfl ?_); refine Kd.R_lit k39 _ 39 ?hg (N := 29) ?hd (xs := ([(⟨2, 3, (⟨#[120, 10, 121]⟩ : ByteArray)⟩ : S39)] : List (S39))) (inner := [.int .i64 2, .int .i64 3, .string (⟨#[120, 10, 121]⟩ : ByteArray)]) (ok := fun _ => True) (okp := fun _ => True) ?hr ?hp (fun _ hk => hk) trivial (Below.refl _ _) (Nat.le_refl _) (by simp) ?_; (case hd => rfl); (case hg => rfl); (case hr => first | (go_simp; done) | (go_simp; rfl)); (case hp => exact (Reps.c3 (show Kd.M k39 _ _ _ (⟨2, 3, (⟨#[120, 10, 121]⟩ : ByteArray)⟩ : S39) [.int .i64 2, .int .i64 3, .string (⟨#[120, 10, 121]⟩ : ByteArray)] from (k39_mkM _ _ _ (⟨2, 3, (⟨#[120, 10, 121]⟩ : ByteArray)⟩ : S39) )) (Reps.none _ _))); intro v334 w110 ho111 hb hg_ hnew_; clear hg_ hnew_; (first | rw [← Ny333.out] at ho111 | (simp only [Int.reduceToNat] at ho111; rw [← Ny333.out] at ho111)); replace HO311 := (zRb HO311 hb); replace HO317 := (zRb HO317 hb); replace HO323 := (zRb HO323 hb); replace HO326 := (zRb HO326 hb); replace HO332 := (zRb HO332 hb); have HO335 := Aside0.mk (Kd.R_lower (Kd.R_new' ho111 (Kd.R_lt (zR HO314))) (below_size zb)); replace HO314 := Aside0.mk (Kd.R_elder' (zR HO314) (Kd.R_base ho111) hb); replace HB := (zB hb); clear hb ho111; obtain ⟨Ao112, co112, eo112⟩ := Kd.R_slice HO332.out; subst eo112; obtain ⟨Ao113, co113, eo113⟩ := Kd.R_slice HO335.out; subst eo113) | ((with_reducible refine zG 23 rfl ?_); refine zg 30 Try.func23 ((relex_Line.calls k _ _ t330 _ _ y333 t336 t337 _ ?side1 ?side2 ?side3 ?side4 A7.out).mono ?_); (case side1 => exact zE' (Kd.R_reads' HO332.out).2.2); (case side2 => exact (Kd.R_reads' HO332.out).2.1); (case side3 => exact zE' (Kd.R_reads' HO335.out).2.2); (case side4 => exact (Kd.R_reads' HO335.out).2.1); rintro e w114 ⟨rfl, hb⟩; refine ⟨_, rfl, ?_⟩; replace HO311 := (zRb HO311 hb); replace HO314 := (zRb HO314 hb); replace HO317 := (zRb HO317 hb); replace HO323 := (zRb HO323 hb); replace HO326 := (zRb HO326 hb); replace HO332 := (zRb HO332 hb); replace HO335 := (zRb HO335 hb); replace HB := (zB hb); (try clear hb); (try clear hb2); (try clear hk); (try clear hi)) | (go_at_call 15; (with_reducible refine (marginaliaref03_Lex.calls k (⟨#[97, 32, 120, 32, 121, 32, 99]⟩ : ByteArray) t338 _ A9.out).mono ?_); rintro e w115 ⟨v339, rfl, ho0, hb⟩; replace HO314 := (zRb HO314 hb); replace HO335 := (zRb HO335 hb); have HO340 := Aside0.mk (Kd.R_lower (Kd.R_new' (Kd.R_new' (Kd.R_new' (Kd.R_new' (Kd.R_new' ho0 (Kd.R_lt (zR HO311))) (Kd.R_lt (zR HO317))) (Kd.R_lt (zR HO323))) (Kd.R_lt (zR HO326))) (Kd.R_lt (zR HO332))) (below_size zb)); replace HO311 := Aside0.mk (Kd.R_elder' (zR HO311) (Kd.R_base ho0) hb); replace HO317 := Aside0.mk (Kd.R_elder' (zR HO317) (Kd.R_base ho0) hb); replace HO323 := Aside0.mk (Kd.R_elder' (zR HO323) (Kd.R_base ho0) hb); replace HO326 := Aside0.mk (Kd.R_elder' (zR HO326) (Kd.R_base ho0) hb); replace HO332 := Aside0.mk (Kd.R_elder' (zR HO332) (Kd.R_base ho0) hb); replace HB := (zB hb); (try clear hb); (try clear hb2); (try clear hk); (try clear hi); (try clear ho0); obtain ⟨Ao116, co116, eo116⟩ := Kd.R_slice HO317.out; subst eo116; obtain ⟨Ao117, co117, eo117⟩ := Kd.R_slice HO340.out; subst eo117) | (go_at_call 18; (with_reducible refine (marginaliaref03_Same.calls k _ _ t315 _ _ t338 true _ ?side1 ?side2 ?side3 ?side4 A10.out).mono ?_); (case side1 => exact zE' (Kd.R_reads' HO317.out).2.2); (case side2 => exact (Kd.R_reads' HO317.out).2.1); (case side3 => exact zE' (Kd.R_reads' HO340.out).2.2); (case side4 => exact (Kd.R_reads' HO340.out).2.1); rintro e w' ⟨rfl, ⟨nd, rfl⟩⟩))
      go_ret; exact ⟨zr, zb⟩
    ·rw [if_neg c13] at H; have c13b0 := decide_eq_false c13; clear c13; obtain rfl := Option.some.inj H; go_enter Try.func14, Try.ntmps14
     go_wp2_with (first | ((with_reducible refine zG 39 rfl ?_); refine zg 11 Try.func39 ((marginalialaw04_sample.calls k  t309 _ A1.out).mono ?_); rintro e w118 ⟨v310, rfl, ho0, hb⟩; refine ⟨_, rfl, ?_⟩; have HO311 := Aside0.mk (Kd.R_lower ho0 (below_size zb)); replace HB := (zB hb); (try clear hb); (try clear hb2); (try clear hk); (try clear hi); (try clear ho0)) | ((with_reducible refine zD 13 rfl ?_); refine Kd.R_lit k39 _ 39 ?hg (N := 13) ?hd (xs := ([(⟨2, 3, (⟨#[120, 32, 121]⟩ : ByteArray)⟩ : S39)] : List (S39))) (inner := [.int .i64 2, .int .i64 3, .string (⟨#[120, 32, 121]⟩ : ByteArray)]) (ok := fun _ => True) (okp := fun _ => True) ?hr ?hp (fun _ hk => hk) trivial (Below.refl _ _) (Nat.le_refl _) (by simp) ?_; (case hd => rfl); (case hg => rfl); (case hr => first | (go_simp; done) | (go_simp; rfl)); (case hp => exact (Reps.c3 (show Kd.M k39 _ _ _ (⟨2, 3, (⟨#[120, 32, 121]⟩ : ByteArray)⟩ : S39) [.int .i64 2, .int .i64 3, .string (⟨#[120, 32, 121]⟩ : ByteArray)] from (k39_mkM _ _ _ (⟨2, 3, (⟨#[120, 32, 121]⟩ : ByteArray)⟩ : S39) )) (Reps.none _ _))); intro v313 w119 ho120 hb hg_ hnew_; clear hg_ hnew_; (first | rw [← Ny312.out] at ho120 | (simp only [Int.reduceToNat] at ho120; rw [← Ny312.out] at ho120)); replace HO311 := (zRb HO311 hb); have HO314 := Aside0.mk (Kd.R_lower ho120 (below_size zb)); replace HB := (zB hb); clear hb ho120; obtain ⟨Ao121, co121, eo121⟩ := Kd.R_slice HO311.out; subst eo121; obtain ⟨Ao122, co122, eo122⟩ := Kd.R_slice HO314.out; subst eo122) | ((with_reducible refine zG 12 rfl ?_); refine zg 14 Try.func12 ((relex_Relex.calls k (fun k_ => some k_ = (.slice Ao121 t309.length co121 : Value).ownBlock) _ _ t309 _ _ y312 t315 t318 t319 t320 _ ?side1 ?side2 ?side3 A2.out).mono ?_); (case side1 => exact Kd.R_V (Kd.R_tight rfl (Kd.R_apart' (HO311.out) (Kd.R_typed HO314.out) (by decide)))); (case side2 => exact zE' (Kd.R_reads' HO314.out).2.2); (case side3 => exact (Kd.R_reads' HO314.out).2.1); rintro e w123 ⟨v316, rfl, ho0, hb⟩; refine ⟨_, rfl, ?_⟩; replace HO314 := (zRb HO314 hb); have HO317 := Aside0.mk (Kd.R_lower (Kd.R_new' (Kd.R_mono (ok' := fun k_ => True) ho0 (fun _ hk_ => trivial)) (Kd.R_lt (zR HO311))) (below_size zb)); replace HO311 := Aside0.mk (Kd.R_elder' (zR HO311) (Kd.R_base ho0) hb); replace HB := (zB hb); (try clear hb); (try clear hb2); (try clear hk); (try clear hi); (try clear ho0)) | ((with_reducible refine zG 39 rfl ?_); refine zg 20 Try.func39 ((marginalialaw04_sample.calls k  t321 _ A3.out).mono ?_); rintro e w124 ⟨v322, rfl, ho0, hb⟩; refine ⟨_, rfl, ?_⟩; replace HO314 := (zRb HO314 hb); have HO323 := Aside0.mk (Kd.R_lower (Kd.R_new' (Kd.R_new' ho0 (Kd.R_lt (zR HO311))) (Kd.R_lt (zR HO317))) (below_size zb)); replace HO311 := Aside0.mk (Kd.R_elder' (zR HO311) (Kd.R_base ho0) hb); replace HO317 := Aside0.mk (Kd.R_elder' (zR HO317) (Kd.R_base ho0) hb); replace HB := (zB hb); (try clear hb); (try clear hb2); (try clear hk); (try clear hi); (try clear ho0)) | ((with_reducible refine zG 15 rfl ?_); refine zg 21 Try.func15 ((marginaliaref03_Lex.calls k (⟨#[97, 32, 100, 32, 99]⟩ : ByteArray) t324 _ A4.out).mono ?_); rintro e w125 ⟨v325, rfl, ho0, hb⟩; refine ⟨_, rfl, ?_⟩; replace HO314 := (zRb HO314 hb); have HO326 := Aside0.mk (Kd.R_lower (Kd.R_new' (Kd.R_new' (Kd.R_new' ho0 (Kd.R_lt (zR HO311))) (Kd.R_lt (zR HO317))) (Kd.R_lt (zR HO323))) (below_size zb)); replace HO311 := Aside0.mk (Kd.R_elder' (zR HO311) (Kd.R_base ho0) hb); replace HO317 := Aside0.mk (Kd.R_elder' (zR HO317) (Kd.R_base ho0) hb); replace HO323 := Aside0.mk (Kd.R_elder' (zR HO323) (Kd.R_base ho0) hb); replace HB := (zB hb); (try clear hb); (try clear hb2); (try clear hk); (try clear hi); (try clear ho0); obtain ⟨Ao126, co126, eo126⟩ := Kd.R_slice HO323.out; subst eo126; obtain ⟨Ao127, co127, eo127⟩ := Kd.R_slice HO326.out; subst eo127) | ((with_reducible refine zG 21 rfl ?_); refine zg 22 Try.func21 ((relex_Common.calls k _ _ t321 _ _ t324 t327 t328 t329 _ ?side1 ?side2 ?side3 ?side4 A5.out).mono ?_); (case side1 => exact zE' (Kd.R_reads' HO323.out).2.2); (case side2 => exact (Kd.R_reads' HO323.out).2.1); (case side3 => exact zE' (Kd.R_reads' HO326.out).2.2); (case side4 => exact (Kd.R_reads' HO326.out).2.1); rintro e w128 ⟨rfl, hb⟩; refine ⟨_, rfl, ?_⟩; replace HO311 := (zRb HO311 hb); replace HO314 := (zRb HO314 hb); replace HO317 := (zRb HO317 hb); replace HO323 := (zRb HO323 hb); replace HO326 := (zRb HO326 hb); replace HB := (zB hb); (try clear hb); (try clear hb2); (try clear hk); (try clear hi)) | ((with_reducible refine zG 39 rfl ?_); refine zg 27 Try.func39 ((marginalialaw04_sample.calls k  t330 _ A6.out).mono ?_); rintro e w129 ⟨v331, rfl, ho0, hb⟩; refine ⟨_, rfl, ?_⟩; replace HO314 := (zRb HO314 hb); have HO332 := Aside0.mk (Kd.R_lower (Kd.R_new' (Kd.R_new' (Kd.R_new' (Kd.R_new' ho0 (Kd.R_lt (zR HO311))) (Kd.R_lt (zR HO317))) (Kd.R_lt (zR HO323))) (Kd.R_lt (zR HO326))) (below_size zb)); replace HO311 := Aside0.mk (Kd.R_elder' (zR HO311) (Kd.R_base ho0) hb); replace HO317 := Aside0.mk (Kd.R_elder' (zR HO317) (Kd.R_base ho0) hb); replace HO323 := Aside0.mk (Kd.R_elder' (zR HO323) (Kd.R_base ho0) hb); replace HO326 := Aside0.mk (Kd.R_elder' (zR HO326) (Kd.R_base ho0) hb); replace HB := (zB hb); (try clear hb); (try clear hb2); (try clear hk); (try clear hi); (try clear ho0)) | ((with_reducible refine zD 29 rfl ?_); refine Kd.R_lit k39 _ 39 ?hg (N := 29) ?hd (xs := ([(⟨2, 3, (⟨#[120, 10, 121]⟩ : ByteArray)⟩ : S39)] : List (S39))) (inner := [.int .i64 2, .int .i64 3, .string (⟨#[120, 10, 121]⟩ : ByteArray)]) (ok := fun _ => True) (okp := fun _ => True) ?hr ?hp (fun _ hk => hk) trivial (Below.refl _ _) (Nat.le_refl _) (by simp) ?_; (case hd => rfl); (case hg => rfl); (case hr => first | (go_simp; done) | (go_simp; rfl)); (case hp => exact (Reps.c3 (show Kd.M k39 _ _ _ (⟨2, 3, (⟨#[120, 10, 121]⟩ : ByteArray)⟩ : S39) [.int .i64 2, .int .i64 3, .string (⟨#[120, 10, 121]⟩ : ByteArray)] from (k39_mkM _ _ _ (⟨2, 3, (⟨#[120, 10, 121]⟩ : ByteArray)⟩ : S39) )) (Reps.none _ _))); intro v334 w130 ho131 hb hg_ hnew_; clear hg_ hnew_; (first | rw [← Ny333.out] at ho131 | (simp only [Int.reduceToNat] at ho131; rw [← Ny333.out] at ho131)); replace HO311 := (zRb HO311 hb); replace HO317 := (zRb HO317 hb); replace HO323 := (zRb HO323 hb); replace HO326 := (zRb HO326 hb); replace HO332 := (zRb HO332 hb); have HO335 := Aside0.mk (Kd.R_lower (Kd.R_new' ho131 (Kd.R_lt (zR HO314))) (below_size zb)); replace HO314 := Aside0.mk (Kd.R_elder' (zR HO314) (Kd.R_base ho131) hb); replace HB := (zB hb); clear hb ho131; obtain ⟨Ao132, co132, eo132⟩ := Kd.R_slice HO332.out; subst eo132; obtain ⟨Ao133, co133, eo133⟩ := Kd.R_slice HO335.out; subst eo133) | ((with_reducible refine zG 23 rfl ?_); refine zg 30 Try.func23 ((relex_Line.calls k _ _ t330 _ _ y333 t336 t337 _ ?side1 ?side2 ?side3 ?side4 A7.out).mono ?_); (case side1 => exact zE' (Kd.R_reads' HO332.out).2.2); (case side2 => exact (Kd.R_reads' HO332.out).2.1); (case side3 => exact zE' (Kd.R_reads' HO335.out).2.2); (case side4 => exact (Kd.R_reads' HO335.out).2.1); rintro e w134 ⟨rfl, hb⟩; refine ⟨_, rfl, ?_⟩; replace HO311 := (zRb HO311 hb); replace HO314 := (zRb HO314 hb); replace HO317 := (zRb HO317 hb); replace HO323 := (zRb HO323 hb); replace HO326 := (zRb HO326 hb); replace HO332 := (zRb HO332 hb); replace HO335 := (zRb HO335 hb); replace HB := (zB hb); (try clear hb); (try clear hb2); (try clear hk); (try clear hi)) | (go_at_call 15; (with_reducible refine (marginaliaref03_Lex.calls k (⟨#[97, 32, 120, 32, 121, 32, 99]⟩ : ByteArray) t338 _ A9.out).mono ?_); rintro e w135 ⟨v339, rfl, ho0, hb⟩; replace HO314 := (zRb HO314 hb); replace HO335 := (zRb HO335 hb); have HO340 := Aside0.mk (Kd.R_lower (Kd.R_new' (Kd.R_new' (Kd.R_new' (Kd.R_new' (Kd.R_new' ho0 (Kd.R_lt (zR HO311))) (Kd.R_lt (zR HO317))) (Kd.R_lt (zR HO323))) (Kd.R_lt (zR HO326))) (Kd.R_lt (zR HO332))) (below_size zb)); replace HO311 := Aside0.mk (Kd.R_elder' (zR HO311) (Kd.R_base ho0) hb); replace HO317 := Aside0.mk (Kd.R_elder' (zR HO317) (Kd.R_base ho0) hb); replace HO323 := Aside0.mk (Kd.R_elder' (zR HO323) (Kd.R_base ho0) hb); replace HO326 := Aside0.mk (Kd.R_elder' (zR HO326) (Kd.R_base ho0) hb); replace HO332 := Aside0.mk (Kd.R_elder' (zR HO332) (Kd.R_base ho0) hb); replace HB := (zB hb); (try clear hb); (try clear hb2); (try clear hk); (try clear hi); (try clear ho0); obtain ⟨Ao136, co136, eo136⟩ := Kd.R_slice HO317.out; subst eo136; obtain ⟨Ao137, co137, eo137⟩ := Kd.R_slice HO340.out; subst eo137) | (go_at_call 18; (with_reducible refine (marginaliaref03_Same.calls k _ _ t315 _ _ t338 true _ ?side1 ?side2 ?side3 ?side4 A10.out).mono ?_); (case side1 => exact zE' (Kd.R_reads' HO317.out).2.2); (case side2 => exact (Kd.R_reads' HO317.out).2.1); (case side3 => exact zE' (Kd.R_reads' HO340.out).2.2); (case side4 => exact (Kd.R_reads' HO340.out).2.1); rintro e w' ⟨rfl, ⟨nd, rfl⟩⟩))
     go_ret; exact ⟨zr, zb⟩
   ·rw [if_neg c12] at H; have c12b0 := decide_eq_false c12; clear c12; obtain rfl := Option.some.inj H; go_enter Try.func14, Try.ntmps14
    go_wp2_with (first | ((with_reducible refine zG 39 rfl ?_); refine zg 11 Try.func39 ((marginalialaw04_sample.calls k  t309 _ A1.out).mono ?_); rintro e w138 ⟨v310, rfl, ho0, hb⟩; refine ⟨_, rfl, ?_⟩; have HO311 := Aside0.mk (Kd.R_lower ho0 (below_size zb)); replace HB := (zB hb); (try clear hb); (try clear hb2); (try clear hk); (try clear hi); (try clear ho0)) | ((with_reducible refine zD 13 rfl ?_); refine Kd.R_lit k39 _ 39 ?hg (N := 13) ?hd (xs := ([(⟨2, 3, (⟨#[120, 32, 121]⟩ : ByteArray)⟩ : S39)] : List (S39))) (inner := [.int .i64 2, .int .i64 3, .string (⟨#[120, 32, 121]⟩ : ByteArray)]) (ok := fun _ => True) (okp := fun _ => True) ?hr ?hp (fun _ hk => hk) trivial (Below.refl _ _) (Nat.le_refl _) (by simp) ?_; (case hd => rfl); (case hg => rfl); (case hr => first | (go_simp; done) | (go_simp; rfl)); (case hp => exact (Reps.c3 (show Kd.M k39 _ _ _ (⟨2, 3, (⟨#[120, 32, 121]⟩ : ByteArray)⟩ : S39) [.int .i64 2, .int .i64 3, .string (⟨#[120, 32, 121]⟩ : ByteArray)] from (k39_mkM _ _ _ (⟨2, 3, (⟨#[120, 32, 121]⟩ : ByteArray)⟩ : S39) )) (Reps.none _ _))); intro v313 w139 ho140 hb hg_ hnew_; clear hg_ hnew_; (first | rw [← Ny312.out] at ho140 | (simp only [Int.reduceToNat] at ho140; rw [← Ny312.out] at ho140)); replace HO311 := (zRb HO311 hb); have HO314 := Aside0.mk (Kd.R_lower ho140 (below_size zb)); replace HB := (zB hb); clear hb ho140; obtain ⟨Ao141, co141, eo141⟩ := Kd.R_slice HO311.out; subst eo141; obtain ⟨Ao142, co142, eo142⟩ := Kd.R_slice HO314.out; subst eo142) | ((with_reducible refine zG 12 rfl ?_); refine zg 14 Try.func12 ((relex_Relex.calls k (fun k_ => some k_ = (.slice Ao141 t309.length co141 : Value).ownBlock) _ _ t309 _ _ y312 t315 t318 t319 t320 _ ?side1 ?side2 ?side3 A2.out).mono ?_); (case side1 => exact Kd.R_V (Kd.R_tight rfl (Kd.R_apart' (HO311.out) (Kd.R_typed HO314.out) (by decide)))); (case side2 => exact zE' (Kd.R_reads' HO314.out).2.2); (case side3 => exact (Kd.R_reads' HO314.out).2.1); rintro e w143 ⟨v316, rfl, ho0, hb⟩; refine ⟨_, rfl, ?_⟩; replace HO314 := (zRb HO314 hb); have HO317 := Aside0.mk (Kd.R_lower (Kd.R_new' (Kd.R_mono (ok' := fun k_ => True) ho0 (fun _ hk_ => trivial)) (Kd.R_lt (zR HO311))) (below_size zb)); replace HO311 := Aside0.mk (Kd.R_elder' (zR HO311) (Kd.R_base ho0) hb); replace HB := (zB hb); (try clear hb); (try clear hb2); (try clear hk); (try clear hi); (try clear ho0)) | ((with_reducible refine zG 39 rfl ?_); refine zg 20 Try.func39 ((marginalialaw04_sample.calls k  t321 _ A3.out).mono ?_); rintro e w144 ⟨v322, rfl, ho0, hb⟩; refine ⟨_, rfl, ?_⟩; replace HO314 := (zRb HO314 hb); have HO323 := Aside0.mk (Kd.R_lower (Kd.R_new' (Kd.R_new' ho0 (Kd.R_lt (zR HO311))) (Kd.R_lt (zR HO317))) (below_size zb)); replace HO311 := Aside0.mk (Kd.R_elder' (zR HO311) (Kd.R_base ho0) hb); replace HO317 := Aside0.mk (Kd.R_elder' (zR HO317) (Kd.R_base ho0) hb); replace HB := (zB hb); (try clear hb); (try clear hb2); (try clear hk); (try clear hi); (try clear ho0)) | ((with_reducible refine zG 15 rfl ?_); refine zg 21 Try.func15 ((marginaliaref03_Lex.calls k (⟨#[97, 32, 100, 32, 99]⟩ : ByteArray) t324 _ A4.out).mono ?_); rintro e w145 ⟨v325, rfl, ho0, hb⟩; refine ⟨_, rfl, ?_⟩; replace HO314 := (zRb HO314 hb); have HO326 := Aside0.mk (Kd.R_lower (Kd.R_new' (Kd.R_new' (Kd.R_new' ho0 (Kd.R_lt (zR HO311))) (Kd.R_lt (zR HO317))) (Kd.R_lt (zR HO323))) (below_size zb)); replace HO311 := Aside0.mk (Kd.R_elder' (zR HO311) (Kd.R_base ho0) hb); replace HO317 := Aside0.mk (Kd.R_elder' (zR HO317) (Kd.R_base ho0) hb); replace HO323 := Aside0.mk (Kd.R_elder' (zR HO323) (Kd.R_base ho0) hb); replace HB := (zB hb); (try clear hb); (try clear hb2); (try clear hk); (try clear hi); (try clear ho0); obtain ⟨Ao146, co146, eo146⟩ := Kd.R_slice HO323.out; subst eo146; obtain ⟨Ao147, co147, eo147⟩ := Kd.R_slice HO326.out; subst eo147) | ((with_reducible refine zG 21 rfl ?_); refine zg 22 Try.func21 ((relex_Common.calls k _ _ t321 _ _ t324 t327 t328 t329 _ ?side1 ?side2 ?side3 ?side4 A5.out).mono ?_); (case side1 => exact zE' (Kd.R_reads' HO323.out).2.2); (case side2 => exact (Kd.R_reads' HO323.out).2.1); (case side3 => exact zE' (Kd.R_reads' HO326.out).2.2); (case side4 => exact (Kd.R_reads' HO326.out).2.1); rintro e w148 ⟨rfl, hb⟩; refine ⟨_, rfl, ?_⟩; replace HO311 := (zRb HO311 hb); replace HO314 := (zRb HO314 hb); replace HO317 := (zRb HO317 hb); replace HO323 := (zRb HO323 hb); replace HO326 := (zRb HO326 hb); replace HB := (zB hb); (try clear hb); (try clear hb2); (try clear hk); (try clear hi)) | ((with_reducible refine zG 39 rfl ?_); refine zg 27 Try.func39 ((marginalialaw04_sample.calls k  t330 _ A6.out).mono ?_); rintro e w149 ⟨v331, rfl, ho0, hb⟩; refine ⟨_, rfl, ?_⟩; replace HO314 := (zRb HO314 hb); have HO332 := Aside0.mk (Kd.R_lower (Kd.R_new' (Kd.R_new' (Kd.R_new' (Kd.R_new' ho0 (Kd.R_lt (zR HO311))) (Kd.R_lt (zR HO317))) (Kd.R_lt (zR HO323))) (Kd.R_lt (zR HO326))) (below_size zb)); replace HO311 := Aside0.mk (Kd.R_elder' (zR HO311) (Kd.R_base ho0) hb); replace HO317 := Aside0.mk (Kd.R_elder' (zR HO317) (Kd.R_base ho0) hb); replace HO323 := Aside0.mk (Kd.R_elder' (zR HO323) (Kd.R_base ho0) hb); replace HO326 := Aside0.mk (Kd.R_elder' (zR HO326) (Kd.R_base ho0) hb); replace HB := (zB hb); (try clear hb); (try clear hb2); (try clear hk); (try clear hi); (try clear ho0)) | ((with_reducible refine zD 29 rfl ?_); refine Kd.R_lit k39 _ 39 ?hg (N := 29) ?hd (xs := ([(⟨2, 3, (⟨#[120, 10, 121]⟩ : ByteArray)⟩ : S39)] : List (S39))) (inner := [.int .i64 2, .int .i64 3, .string (⟨#[120, 10, 121]⟩ : ByteArray)]) (ok := fun _ => True) (okp := fun _ => True) ?hr ?hp (fun _ hk => hk) trivial (Below.refl _ _) (Nat.le_refl _) (by simp) ?_; (case hd => rfl); (case hg => rfl); (case hr => first | (go_simp; done) | (go_simp; rfl)); (case hp => exact (Reps.c3 (show Kd.M k39 _ _ _ (⟨2, 3, (⟨#[120, 10, 121]⟩ : ByteArray)⟩ : S39) [.int .i64 2, .int .i64 3, .string (⟨#[120, 10, 121]⟩ : ByteArray)] from (k39_mkM _ _ _ (⟨2, 3, (⟨#[120, 10, 121]⟩ : ByteArray)⟩ : S39) )) (Reps.none _ _))); intro v334 w150 ho151 hb hg_ hnew_; clear hg_ hnew_; (first | rw [← Ny333.out] at ho151 | (simp only [Int.reduceToNat] at ho151; rw [← Ny333.out] at ho151)); replace HO311 := (zRb HO311 hb); replace HO317 := (zRb HO317 hb); replace HO323 := (zRb HO323 hb); replace HO326 := (zRb HO326 hb); replace HO332 := (zRb HO332 hb); have HO335 := Aside0.mk (Kd.R_lower (Kd.R_new' ho151 (Kd.R_lt (zR HO314))) (below_size zb)); replace HO314 := Aside0.mk (Kd.R_elder' (zR HO314) (Kd.R_base ho151) hb); replace HB := (zB hb); clear hb ho151; obtain ⟨Ao152, co152, eo152⟩ := Kd.R_slice HO332.out; subst eo152; obtain ⟨Ao153, co153, eo153⟩ := Kd.R_slice HO335.out; subst eo153) | ((with_reducible refine zG 23 rfl ?_); refine zg 30 Try.func23 ((relex_Line.calls k _ _ t330 _ _ y333 t336 t337 _ ?side1 ?side2 ?side3 ?side4 A7.out).mono ?_); (case side1 => exact zE' (Kd.R_reads' HO332.out).2.2); (case side2 => exact (Kd.R_reads' HO332.out).2.1); (case side3 => exact zE' (Kd.R_reads' HO335.out).2.2); (case side4 => exact (Kd.R_reads' HO335.out).2.1); rintro e w154 ⟨rfl, hb⟩; refine ⟨_, rfl, ?_⟩; replace HO311 := (zRb HO311 hb); replace HO314 := (zRb HO314 hb); replace HO317 := (zRb HO317 hb); replace HO323 := (zRb HO323 hb); replace HO326 := (zRb HO326 hb); replace HO332 := (zRb HO332 hb); replace HO335 := (zRb HO335 hb); replace HB := (zB hb); (try clear hb); (try clear hb2); (try clear hk); (try clear hi)) | (go_at_call 15; (with_reducible refine (marginaliaref03_Lex.calls k (⟨#[97, 32, 120, 32, 121, 32, 99]⟩ : ByteArray) t338 _ A9.out).mono ?_); rintro e w155 ⟨v339, rfl, ho0, hb⟩; replace HO314 := (zRb HO314 hb); replace HO335 := (zRb HO335 hb); have HO340 := Aside0.mk (Kd.R_lower (Kd.R_new' (Kd.R_new' (Kd.R_new' (Kd.R_new' (Kd.R_new' ho0 (Kd.R_lt (zR HO311))) (Kd.R_lt (zR HO317))) (Kd.R_lt (zR HO323))) (Kd.R_lt (zR HO326))) (Kd.R_lt (zR HO332))) (below_size zb)); replace HO311 := Aside0.mk (Kd.R_elder' (zR HO311) (Kd.R_base ho0) hb); replace HO317 := Aside0.mk (Kd.R_elder' (zR HO317) (Kd.R_base ho0) hb); replace HO323 := Aside0.mk (Kd.R_elder' (zR HO323) (Kd.R_base ho0) hb); replace HO326 := Aside0.mk (Kd.R_elder' (zR HO326) (Kd.R_base ho0) hb); replace HO332 := Aside0.mk (Kd.R_elder' (zR HO332) (Kd.R_base ho0) hb); replace HB := (zB hb); (try clear hb); (try clear hb2); (try clear hk); (try clear hi); (try clear ho0); obtain ⟨Ao156, co156, eo156⟩ := Kd.R_slice HO317.out; subst eo156; obtain ⟨Ao157, co157, eo157⟩ := Kd.R_slice HO340.out; subst eo157) | (go_at_call 18; (with_reducible refine (marginaliaref03_Same.calls k _ _ t315 _ _ t338 true _ ?side1 ?side2 ?side3 ?side4 A10.out).mono ?_); (case side1 => exact zE' (Kd.R_reads' HO317.out).2.2); (case side2 => exact (Kd.R_reads' HO317.out).2.1); (case side3 => exact zE' (Kd.R_reads' HO340.out).2.2); (case side4 => exact (Kd.R_reads' HO340.out).2.1); rintro e w' ⟨rfl, ⟨nd, rfl⟩⟩))
    go_ret; exact ⟨zr, zb⟩
  ·replace c11 := Bool.eq_false_iff.mpr c11; subst c11; replace H := zf H; obtain rfl := Option.some.inj H; go_enter Try.func14, Try.ntmps14
   go_wp2_with (first | ((with_reducible refine zG 39 rfl ?_); refine zg 11 Try.func39 ((marginalialaw04_sample.calls k  t309 _ A1.out).mono ?_); rintro e w158 ⟨v310, rfl, ho0, hb⟩; refine ⟨_, rfl, ?_⟩; have HO311 := Aside0.mk (Kd.R_lower ho0 (below_size zb)); replace HB := (zB hb); (try clear hb); (try clear hb2); (try clear hk); (try clear hi); (try clear ho0)) | ((with_reducible refine zD 13 rfl ?_); refine Kd.R_lit k39 _ 39 ?hg (N := 13) ?hd (xs := ([(⟨2, 3, (⟨#[120, 32, 121]⟩ : ByteArray)⟩ : S39)] : List (S39))) (inner := [.int .i64 2, .int .i64 3, .string (⟨#[120, 32, 121]⟩ : ByteArray)]) (ok := fun _ => True) (okp := fun _ => True) ?hr ?hp (fun _ hk => hk) trivial (Below.refl _ _) (Nat.le_refl _) (by simp) ?_; (case hd => rfl); (case hg => rfl); (case hr => first | (go_simp; done) | (go_simp; rfl)); (case hp => exact (Reps.c3 (show Kd.M k39 _ _ _ (⟨2, 3, (⟨#[120, 32, 121]⟩ : ByteArray)⟩ : S39) [.int .i64 2, .int .i64 3, .string (⟨#[120, 32, 121]⟩ : ByteArray)] from (k39_mkM _ _ _ (⟨2, 3, (⟨#[120, 32, 121]⟩ : ByteArray)⟩ : S39) )) (Reps.none _ _))); intro v313 w159 ho160 hb hg_ hnew_; clear hg_ hnew_; (first | rw [← Ny312.out] at ho160 | (simp only [Int.reduceToNat] at ho160; rw [← Ny312.out] at ho160)); replace HO311 := (zRb HO311 hb); have HO314 := Aside0.mk (Kd.R_lower ho160 (below_size zb)); replace HB := (zB hb); clear hb ho160; obtain ⟨Ao161, co161, eo161⟩ := Kd.R_slice HO311.out; subst eo161; obtain ⟨Ao162, co162, eo162⟩ := Kd.R_slice HO314.out; subst eo162) | ((with_reducible refine zG 12 rfl ?_); refine zg 14 Try.func12 ((relex_Relex.calls k (fun k_ => some k_ = (.slice Ao161 t309.length co161 : Value).ownBlock) _ _ t309 _ _ y312 t315 t318 t319 t320 _ ?side1 ?side2 ?side3 A2.out).mono ?_); (case side1 => exact Kd.R_V (Kd.R_tight rfl (Kd.R_apart' (HO311.out) (Kd.R_typed HO314.out) (by decide)))); (case side2 => exact zE' (Kd.R_reads' HO314.out).2.2); (case side3 => exact (Kd.R_reads' HO314.out).2.1); rintro e w163 ⟨v316, rfl, ho0, hb⟩; refine ⟨_, rfl, ?_⟩; replace HO314 := (zRb HO314 hb); have HO317 := Aside0.mk (Kd.R_lower (Kd.R_new' (Kd.R_mono (ok' := fun k_ => True) ho0 (fun _ hk_ => trivial)) (Kd.R_lt (zR HO311))) (below_size zb)); replace HO311 := Aside0.mk (Kd.R_elder' (zR HO311) (Kd.R_base ho0) hb); replace HB := (zB hb); (try clear hb); (try clear hb2); (try clear hk); (try clear hi); (try clear ho0)) | ((with_reducible refine zG 39 rfl ?_); refine zg 20 Try.func39 ((marginalialaw04_sample.calls k  t321 _ A3.out).mono ?_); rintro e w164 ⟨v322, rfl, ho0, hb⟩; refine ⟨_, rfl, ?_⟩; replace HO314 := (zRb HO314 hb); have HO323 := Aside0.mk (Kd.R_lower (Kd.R_new' (Kd.R_new' ho0 (Kd.R_lt (zR HO311))) (Kd.R_lt (zR HO317))) (below_size zb)); replace HO311 := Aside0.mk (Kd.R_elder' (zR HO311) (Kd.R_base ho0) hb); replace HO317 := Aside0.mk (Kd.R_elder' (zR HO317) (Kd.R_base ho0) hb); replace HB := (zB hb); (try clear hb); (try clear hb2); (try clear hk); (try clear hi); (try clear ho0)) | ((with_reducible refine zG 15 rfl ?_); refine zg 21 Try.func15 ((marginaliaref03_Lex.calls k (⟨#[97, 32, 100, 32, 99]⟩ : ByteArray) t324 _ A4.out).mono ?_); rintro e w165 ⟨v325, rfl, ho0, hb⟩; refine ⟨_, rfl, ?_⟩; replace HO314 := (zRb HO314 hb); have HO326 := Aside0.mk (Kd.R_lower (Kd.R_new' (Kd.R_new' (Kd.R_new' ho0 (Kd.R_lt (zR HO311))) (Kd.R_lt (zR HO317))) (Kd.R_lt (zR HO323))) (below_size zb)); replace HO311 := Aside0.mk (Kd.R_elder' (zR HO311) (Kd.R_base ho0) hb); replace HO317 := Aside0.mk (Kd.R_elder' (zR HO317) (Kd.R_base ho0) hb); replace HO323 := Aside0.mk (Kd.R_elder' (zR HO323) (Kd.R_base ho0) hb); replace HB := (zB hb); (try clear hb); (try clear hb2); (try clear hk); (try clear hi); (try clear ho0); obtain ⟨Ao166, co166, eo166⟩ := Kd.R_slice HO323.out; subst eo166; obtain ⟨Ao167, co167, eo167⟩ := Kd.R_slice HO326.out; subst eo167) | ((with_reducible refine zG 21 rfl ?_); refine zg 22 Try.func21 ((relex_Common.calls k _ _ t321 _ _ t324 t327 t328 t329 _ ?side1 ?side2 ?side3 ?side4 A5.out).mono ?_); (case side1 => exact zE' (Kd.R_reads' HO323.out).2.2); (case side2 => exact (Kd.R_reads' HO323.out).2.1); (case side3 => exact zE' (Kd.R_reads' HO326.out).2.2); (case side4 => exact (Kd.R_reads' HO326.out).2.1); rintro e w168 ⟨rfl, hb⟩; refine ⟨_, rfl, ?_⟩; replace HO311 := (zRb HO311 hb); replace HO314 := (zRb HO314 hb); replace HO317 := (zRb HO317 hb); replace HO323 := (zRb HO323 hb); replace HO326 := (zRb HO326 hb); replace HB := (zB hb); (try clear hb); (try clear hb2); (try clear hk); (try clear hi)) | ((with_reducible refine zG 39 rfl ?_); refine zg 27 Try.func39 ((marginalialaw04_sample.calls k  t330 _ A6.out).mono ?_); rintro e w169 ⟨v331, rfl, ho0, hb⟩; refine ⟨_, rfl, ?_⟩; replace HO314 := (zRb HO314 hb); have HO332 := Aside0.mk (Kd.R_lower (Kd.R_new' (Kd.R_new' (Kd.R_new' (Kd.R_new' ho0 (Kd.R_lt (zR HO311))) (Kd.R_lt (zR HO317))) (Kd.R_lt (zR HO323))) (Kd.R_lt (zR HO326))) (below_size zb)); replace HO311 := Aside0.mk (Kd.R_elder' (zR HO311) (Kd.R_base ho0) hb); replace HO317 := Aside0.mk (Kd.R_elder' (zR HO317) (Kd.R_base ho0) hb); replace HO323 := Aside0.mk (Kd.R_elder' (zR HO323) (Kd.R_base ho0) hb); replace HO326 := Aside0.mk (Kd.R_elder' (zR HO326) (Kd.R_base ho0) hb); replace HB := (zB hb); (try clear hb); (try clear hb2); (try clear hk); (try clear hi); (try clear ho0)) | ((with_reducible refine zD 29 rfl ?_); refine Kd.R_lit k39 _ 39 ?hg (N := 29) ?hd (xs := ([(⟨2, 3, (⟨#[120, 10, 121]⟩ : ByteArray)⟩ : S39)] : List (S39))) (inner := [.int .i64 2, .int .i64 3, .string (⟨#[120, 10, 121]⟩ : ByteArray)]) (ok := fun _ => True) (okp := fun _ => True) ?hr ?hp (fun _ hk => hk) trivial (Below.refl _ _) (Nat.le_refl _) (by simp) ?_; (case hd => rfl); (case hg => rfl); (case hr => first | (go_simp; done) | (go_simp; rfl)); (case hp => exact (Reps.c3 (show Kd.M k39 _ _ _ (⟨2, 3, (⟨#[120, 10, 121]⟩ : ByteArray)⟩ : S39) [.int .i64 2, .int .i64 3, .string (⟨#[120, 10, 121]⟩ : ByteArray)] from (k39_mkM _ _ _ (⟨2, 3, (⟨#[120, 10, 121]⟩ : ByteArray)⟩ : S39) )) (Reps.none _ _))); intro v334 w170 ho171 hb hg_ hnew_; clear hg_ hnew_; (first | rw [← Ny333.out] at ho171 | (simp only [Int.reduceToNat] at ho171; rw [← Ny333.out] at ho171)); replace HO311 := (zRb HO311 hb); replace HO317 := (zRb HO317 hb); replace HO323 := (zRb HO323 hb); replace HO326 := (zRb HO326 hb); replace HO332 := (zRb HO332 hb); have HO335 := Aside0.mk (Kd.R_lower (Kd.R_new' ho171 (Kd.R_lt (zR HO314))) (below_size zb)); replace HO314 := Aside0.mk (Kd.R_elder' (zR HO314) (Kd.R_base ho171) hb); replace HB := (zB hb); clear hb ho171; obtain ⟨Ao172, co172, eo172⟩ := Kd.R_slice HO332.out; subst eo172; obtain ⟨Ao173, co173, eo173⟩ := Kd.R_slice HO335.out; subst eo173) | ((with_reducible refine zG 23 rfl ?_); refine zg 30 Try.func23 ((relex_Line.calls k _ _ t330 _ _ y333 t336 t337 _ ?side1 ?side2 ?side3 ?side4 A7.out).mono ?_); (case side1 => exact zE' (Kd.R_reads' HO332.out).2.2); (case side2 => exact (Kd.R_reads' HO332.out).2.1); (case side3 => exact zE' (Kd.R_reads' HO335.out).2.2); (case side4 => exact (Kd.R_reads' HO335.out).2.1); rintro e w174 ⟨rfl, hb⟩; refine ⟨_, rfl, ?_⟩; replace HO311 := (zRb HO311 hb); replace HO314 := (zRb HO314 hb); replace HO317 := (zRb HO317 hb); replace HO323 := (zRb HO323 hb); replace HO326 := (zRb HO326 hb); replace HO332 := (zRb HO332 hb); replace HO335 := (zRb HO335 hb); replace HB := (zB hb); (try clear hb); (try clear hb2); (try clear hk); (try clear hi)) | (go_at_call 15; (with_reducible refine (marginaliaref03_Lex.calls k (⟨#[97, 32, 120, 32, 121, 32, 99]⟩ : ByteArray) t338 _ A9.out).mono ?_); rintro e w175 ⟨v339, rfl, ho0, hb⟩; replace HO314 := (zRb HO314 hb); replace HO335 := (zRb HO335 hb); have HO340 := Aside0.mk (Kd.R_lower (Kd.R_new' (Kd.R_new' (Kd.R_new' (Kd.R_new' (Kd.R_new' ho0 (Kd.R_lt (zR HO311))) (Kd.R_lt (zR HO317))) (Kd.R_lt (zR HO323))) (Kd.R_lt (zR HO326))) (Kd.R_lt (zR HO332))) (below_size zb)); replace HO311 := Aside0.mk (Kd.R_elder' (zR HO311) (Kd.R_base ho0) hb); replace HO317 := Aside0.mk (Kd.R_elder' (zR HO317) (Kd.R_base ho0) hb); replace HO323 := Aside0.mk (Kd.R_elder' (zR HO323) (Kd.R_base ho0) hb); replace HO326 := Aside0.mk (Kd.R_elder' (zR HO326) (Kd.R_base ho0) hb); replace HO332 := Aside0.mk (Kd.R_elder' (zR HO332) (Kd.R_base ho0) hb); replace HB := (zB hb); (try clear hb); (try clear hb2); (try clear hk); (try clear hi); (try clear ho0); obtain ⟨Ao176, co176, eo176⟩ := Kd.R_slice HO317.out; subst eo176; obtain ⟨Ao177, co177, eo177⟩ := Kd.R_slice HO340.out; subst eo177) | (go_at_call 18; (with_reducible refine (marginaliaref03_Same.calls k _ _ t315 _ _ t338 false _ ?side1 ?side2 ?side3 ?side4 A10.out).mono ?_); (case side1 => exact zE' (Kd.R_reads' HO317.out).2.2); (case side2 => exact (Kd.R_reads' HO317.out).2.1); (case side3 => exact zE' (Kd.R_reads' HO340.out).2.2); (case side4 => exact (Kd.R_reads' HO340.out).2.1); rintro e w' ⟨rfl, ⟨nd, rfl⟩⟩))
   go_ret; exact ⟨zr, zb⟩
 ·rw [if_neg c8] at H; have c8b0 : (t320 == 0) = false := beq_eq_false_iff_ne.mpr c8; have c8b1 : (t320 != 0) = true := bne_iff_ne.mpr c8; obtain rfl := Option.some.inj H; go_enter Try.func14, Try.ntmps14
  go_wp2_with (first | ((with_reducible refine zG 39 rfl ?_); refine zg 11 Try.func39 ((marginalialaw04_sample.calls k  t309 _ A1.out).mono ?_); rintro e w178 ⟨v310, rfl, ho0, hb⟩; refine ⟨_, rfl, ?_⟩; have HO311 := Aside0.mk (Kd.R_lower ho0 (below_size zb)); replace HB := (zB hb); (try clear hb); (try clear hb2); (try clear hk); (try clear hi); (try clear ho0)) | ((with_reducible refine zD 13 rfl ?_); refine Kd.R_lit k39 _ 39 ?hg (N := 13) ?hd (xs := ([(⟨2, 3, (⟨#[120, 32, 121]⟩ : ByteArray)⟩ : S39)] : List (S39))) (inner := [.int .i64 2, .int .i64 3, .string (⟨#[120, 32, 121]⟩ : ByteArray)]) (ok := fun _ => True) (okp := fun _ => True) ?hr ?hp (fun _ hk => hk) trivial (Below.refl _ _) (Nat.le_refl _) (by simp) ?_; (case hd => rfl); (case hg => rfl); (case hr => first | (go_simp; done) | (go_simp; rfl)); (case hp => exact (Reps.c3 (show Kd.M k39 _ _ _ (⟨2, 3, (⟨#[120, 32, 121]⟩ : ByteArray)⟩ : S39) [.int .i64 2, .int .i64 3, .string (⟨#[120, 32, 121]⟩ : ByteArray)] from (k39_mkM _ _ _ (⟨2, 3, (⟨#[120, 32, 121]⟩ : ByteArray)⟩ : S39) )) (Reps.none _ _))); intro v313 w179 ho180 hb hg_ hnew_; clear hg_ hnew_; (first | rw [← Ny312.out] at ho180 | (simp only [Int.reduceToNat] at ho180; rw [← Ny312.out] at ho180)); replace HO311 := (zRb HO311 hb); have HO314 := Aside0.mk (Kd.R_lower ho180 (below_size zb)); replace HB := (zB hb); clear hb ho180; obtain ⟨Ao181, co181, eo181⟩ := Kd.R_slice HO311.out; subst eo181; obtain ⟨Ao182, co182, eo182⟩ := Kd.R_slice HO314.out; subst eo182) | ((with_reducible refine zG 12 rfl ?_); refine zg 14 Try.func12 ((relex_Relex.calls k (fun k_ => some k_ = (.slice Ao181 t309.length co181 : Value).ownBlock) _ _ t309 _ _ y312 t315 t318 t319 t320 _ ?side1 ?side2 ?side3 A2.out).mono ?_); (case side1 => exact Kd.R_V (Kd.R_tight rfl (Kd.R_apart' (HO311.out) (Kd.R_typed HO314.out) (by decide)))); (case side2 => exact zE' (Kd.R_reads' HO314.out).2.2); (case side3 => exact (Kd.R_reads' HO314.out).2.1); rintro e w183 ⟨v316, rfl, ho0, hb⟩; refine ⟨_, rfl, ?_⟩; replace HO314 := (zRb HO314 hb); have HO317 := Aside0.mk (Kd.R_lower (Kd.R_new' (Kd.R_mono (ok' := fun k_ => True) ho0 (fun _ hk_ => trivial)) (Kd.R_lt (zR HO311))) (below_size zb)); replace HO311 := Aside0.mk (Kd.R_elder' (zR HO311) (Kd.R_base ho0) hb); replace HB := (zB hb); (try clear hb); (try clear hb2); (try clear hk); (try clear hi); (try clear ho0)) | ((with_reducible refine zG 39 rfl ?_); refine zg 20 Try.func39 ((marginalialaw04_sample.calls k  t321 _ A3.out).mono ?_); rintro e w184 ⟨v322, rfl, ho0, hb⟩; refine ⟨_, rfl, ?_⟩; replace HO314 := (zRb HO314 hb); have HO323 := Aside0.mk (Kd.R_lower (Kd.R_new' (Kd.R_new' ho0 (Kd.R_lt (zR HO311))) (Kd.R_lt (zR HO317))) (below_size zb)); replace HO311 := Aside0.mk (Kd.R_elder' (zR HO311) (Kd.R_base ho0) hb); replace HO317 := Aside0.mk (Kd.R_elder' (zR HO317) (Kd.R_base ho0) hb); replace HB := (zB hb); (try clear hb); (try clear hb2); (try clear hk); (try clear hi); (try clear ho0)) | ((with_reducible refine zG 15 rfl ?_); refine zg 21 Try.func15 ((marginaliaref03_Lex.calls k (⟨#[97, 32, 100, 32, 99]⟩ : ByteArray) t324 _ A4.out).mono ?_); rintro e w185 ⟨v325, rfl, ho0, hb⟩; refine ⟨_, rfl, ?_⟩; replace HO314 := (zRb HO314 hb); have HO326 := Aside0.mk (Kd.R_lower (Kd.R_new' (Kd.R_new' (Kd.R_new' ho0 (Kd.R_lt (zR HO311))) (Kd.R_lt (zR HO317))) (Kd.R_lt (zR HO323))) (below_size zb)); replace HO311 := Aside0.mk (Kd.R_elder' (zR HO311) (Kd.R_base ho0) hb); replace HO317 := Aside0.mk (Kd.R_elder' (zR HO317) (Kd.R_base ho0) hb); replace HO323 := Aside0.mk (Kd.R_elder' (zR HO323) (Kd.R_base ho0) hb); replace HB := (zB hb); (try clear hb); (try clear hb2); (try clear hk); (try clear hi); (try clear ho0); obtain ⟨Ao186, co186, eo186⟩ := Kd.R_slice HO323.out; subst eo186; obtain ⟨Ao187, co187, eo187⟩ := Kd.R_slice HO326.out; subst eo187) | ((with_reducible refine zG 21 rfl ?_); refine zg 22 Try.func21 ((relex_Common.calls k _ _ t321 _ _ t324 t327 t328 t329 _ ?side1 ?side2 ?side3 ?side4 A5.out).mono ?_); (case side1 => exact zE' (Kd.R_reads' HO323.out).2.2); (case side2 => exact (Kd.R_reads' HO323.out).2.1); (case side3 => exact zE' (Kd.R_reads' HO326.out).2.2); (case side4 => exact (Kd.R_reads' HO326.out).2.1); rintro e w188 ⟨rfl, hb⟩; refine ⟨_, rfl, ?_⟩; replace HO311 := (zRb HO311 hb); replace HO314 := (zRb HO314 hb); replace HO317 := (zRb HO317 hb); replace HO323 := (zRb HO323 hb); replace HO326 := (zRb HO326 hb); replace HB := (zB hb); (try clear hb); (try clear hb2); (try clear hk); (try clear hi)) | ((with_reducible refine zG 39 rfl ?_); refine zg 27 Try.func39 ((marginalialaw04_sample.calls k  t330 _ A6.out).mono ?_); rintro e w189 ⟨v331, rfl, ho0, hb⟩; refine ⟨_, rfl, ?_⟩; replace HO314 := (zRb HO314 hb); have HO332 := Aside0.mk (Kd.R_lower (Kd.R_new' (Kd.R_new' (Kd.R_new' (Kd.R_new' ho0 (Kd.R_lt (zR HO311))) (Kd.R_lt (zR HO317))) (Kd.R_lt (zR HO323))) (Kd.R_lt (zR HO326))) (below_size zb)); replace HO311 := Aside0.mk (Kd.R_elder' (zR HO311) (Kd.R_base ho0) hb); replace HO317 := Aside0.mk (Kd.R_elder' (zR HO317) (Kd.R_base ho0) hb); replace HO323 := Aside0.mk (Kd.R_elder' (zR HO323) (Kd.R_base ho0) hb); replace HO326 := Aside0.mk (Kd.R_elder' (zR HO326) (Kd.R_base ho0) hb); replace HB := (zB hb); (try clear hb); (try clear hb2); (try clear hk); (try clear hi); (try clear ho0)) | ((with_reducible refine zD 29 rfl ?_); refine Kd.R_lit k39 _ 39 ?hg (N := 29) ?hd (xs := ([(⟨2, 3, (⟨#[120, 10, 121]⟩ : ByteArray)⟩ : S39)] : List (S39))) (inner := [.int .i64 2, .int .i64 3, .string (⟨#[120, 10, 121]⟩ : ByteArray)]) (ok := fun _ => True) (okp := fun _ => True) ?hr ?hp (fun _ hk => hk) trivial (Below.refl _ _) (Nat.le_refl _) (by simp) ?_; (case hd => rfl); (case hg => rfl); (case hr => first | (go_simp; done) | (go_simp; rfl)); (case hp => exact (Reps.c3 (show Kd.M k39 _ _ _ (⟨2, 3, (⟨#[120, 10, 121]⟩ : ByteArray)⟩ : S39) [.int .i64 2, .int .i64 3, .string (⟨#[120, 10, 121]⟩ : ByteArray)] from (k39_mkM _ _ _ (⟨2, 3, (⟨#[120, 10, 121]⟩ : ByteArray)⟩ : S39) )) (Reps.none _ _))); intro v334 w190 ho191 hb hg_ hnew_; clear hg_ hnew_; (first | rw [← Ny333.out] at ho191 | (simp only [Int.reduceToNat] at ho191; rw [← Ny333.out] at ho191)); replace HO311 := (zRb HO311 hb); replace HO317 := (zRb HO317 hb); replace HO323 := (zRb HO323 hb); replace HO326 := (zRb HO326 hb); replace HO332 := (zRb HO332 hb); have HO335 := Aside0.mk (Kd.R_lower (Kd.R_new' ho191 (Kd.R_lt (zR HO314))) (below_size zb)); replace HO314 := Aside0.mk (Kd.R_elder' (zR HO314) (Kd.R_base ho191) hb); replace HB := (zB hb); clear hb ho191; obtain ⟨Ao192, co192, eo192⟩ := Kd.R_slice HO332.out; subst eo192; obtain ⟨Ao193, co193, eo193⟩ := Kd.R_slice HO335.out; subst eo193) | ((with_reducible refine zG 23 rfl ?_); refine zg 30 Try.func23 ((relex_Line.calls k _ _ t330 _ _ y333 t336 t337 _ ?side1 ?side2 ?side3 ?side4 A7.out).mono ?_); (case side1 => exact zE' (Kd.R_reads' HO332.out).2.2); (case side2 => exact (Kd.R_reads' HO332.out).2.1); (case side3 => exact zE' (Kd.R_reads' HO335.out).2.2); (case side4 => exact (Kd.R_reads' HO335.out).2.1); rintro e w194 ⟨rfl, hb⟩; refine ⟨_, rfl, ?_⟩; replace HO311 := (zRb HO311 hb); replace HO314 := (zRb HO314 hb); replace HO317 := (zRb HO317 hb); replace HO323 := (zRb HO323 hb); replace HO326 := (zRb HO326 hb); replace HO332 := (zRb HO332 hb); replace HO335 := (zRb HO335 hb); replace HB := (zB hb); (try clear hb); (try clear hb2); (try clear hk); (try clear hi)))
  go_ret; exact ⟨zr, zb⟩

/-! ### marginaliaref01_Apply: function 16 -/
def marginaliaref01_Apply.l0 : Nat → ByteArray → List (S39) → ByteArray → Int → Int → Option (ByteArray)
 | 0, _, _, _, _, _ => none
 | k + 1, x0, x1, x5, x6, x7 => if x7 < (x1.length : Int) then (if 0 ≤ x7 then (if 0 ≤ x6 then (if x6 ≤ ((rd_T39 x1 x7).f0) then (if ((rd_T39 x1 x7).f0) ≤ (x0.size : Int) then (if x5.size + (x0.extract (x6 : Int).toNat (((rd_T39 x1 x7).f0) : Int).toNat).size ≤ 9223372036854775807 then (if (x5 ++ (x0.extract (x6 : Int).toNat (((rd_T39 x1 x7).f0) : Int).toNat)).size + ((rd_T39 x1 x7).f2).size ≤ 9223372036854775807 then (marginaliaref01_Apply.l0 k x0 x1 ((x5 ++ (x0.extract (x6 : Int).toNat (((rd_T39 x1 x7).f0) : Int).toNat)) ++ ((rd_T39 x1 x7).f2)) ((rd_T39 x1 x7).f1) (wrap64 (x7 + 1))) else (none)) else (none)) else (none)) else (none)) else (none)) else (none)) else (if 0 ≤ x6 then (if x6 ≤ (x0.size : Int) then (if x5.size + (x0.extract (x6 : Int).toNat x0.size).size ≤ 9223372036854775807 then (some (x5 ++ (x0.extract (x6 : Int).toNat x0.size))) else (none)) else (none)) else (none))
def marginaliaref01_Apply.f (k : Nat) (a0 : ByteArray) (l1 : List (S39)) : Option (ByteArray) := marginaliaref01_Apply.l0 k a0 l1 (⟨#[]⟩ : ByteArray) 0 0
set_option maxHeartbeats 8000000 in
set_option maxRecDepth 100000 in
theorem marginaliaref01_Apply.calls (k : Nat) (a0 : ByteArray) (A1 : Option Addr) (c1 : Nat) (l1 : List (S39)) (r : ByteArray) (w : World) (hr1 : Kd.C k39 w A1 l1.length l1) (hc1 : l1.length ≤ c1) (h : marginaliaref01_Apply.f k a0 l1 = some r) :
  Calls Try.prog 16 #[.string a0, .slice A1 l1.length c1] w fun e w' => e = .returned (.string r) ∧ Drawn0 w w' := by
 have HR1 := Aside0.mk hr1; have HC1 := Aside0.mk hc1; clear hr1 hc1; have H : (marginaliaref01_Apply.l0 k a0 l1 (⟨#[]⟩ : ByteArray) 0 0) = some r := h; clear h; have H' := Aside0.mk H; clear H; go_enter Try.func16, Try.ntmps16; go_wp2
 repeat (go_quiet (fail); try go_wp2)
 go_loopg [5, 6, 7] k (fun kq v5 v6 v7 w' => ∃ (x5_1 : ByteArray) (x6_1 : Int) (x7_1 : Int), v5 = .string x5_1 ∧ v6 = .int .i64 x6_1 ∧ v7 = .int .i64 x7_1 ∧ Aside0 (marginaliaref01_Apply.l0 kq a0 l1 x5_1 x6_1 x7_1 = some r) ∧ Aside0 (kq ≤ k) ∧ Drawn0 w w')
 case atStart => exact ⟨((⟨#[]⟩ : ByteArray)), (0), (0), zs, zs, zs, H', ⟨Nat.le_refl _⟩, zX⟩
 case round =>
  clear H'; obtain ⟨x5_1, x6_1, x7_1, rfl, rfl, rfl, HA, HK1, ⟨m1, rfl⟩⟩ := hrel
  cases gk with
  | zero => exact absurd HA.out (by simp [marginaliaref01_Apply.l0])
  | succ k1 =>
   have H := HA.out; clear HA; simp only [marginaliaref01_Apply.l0] at H; by_cases c3 : x7_1 < (l1.length : Int)
   ·rw [if_pos c3] at H; have c3b0 := decide_eq_true c3; clear c3; replace H := zi1 H; obtain ⟨c4b0, H⟩ := H; replace H := zi2 H; obtain ⟨c5b0, c5b1, H⟩ := H; replace H := zi2 H; obtain ⟨c6b0, c6b1, H⟩ := H; replace H := zi2 H; obtain ⟨c7b0, c7b1, H⟩ := H; replace H := zi H; obtain ⟨c8, H⟩ := H; have c8b0 := eq_true c8; have c8b1 : decide (x5_1.size + (a0.extract (x6_1 : Int).toNat (((rd_T39 l1 x7_1).f0) : Int).toNat).size ≤ 9223372036854775807) = true := decide_eq_true c8
    try have c8b2 : (9223372036854775807 < x5_1.size + (a0.extract (x6_1 : Int).toNat (((rd_T39 l1 x7_1).f0) : Int).toNat).size) = False := eq_false (Nat.not_lt.2 c8)
    replace H := zi H; obtain ⟨c9, H⟩ := H; have c9b0 := eq_true c9; have c9b1 : decide ((x5_1 ++ (a0.extract (x6_1 : Int).toNat (((rd_T39 l1 x7_1).f0) : Int).toNat)).size + ((rd_T39 l1 x7_1).f2).size ≤ 9223372036854775807) = true := decide_eq_true c9
    try have c9b2 : (9223372036854775807 < (x5_1 ++ (a0.extract (x6_1 : Int).toNat (((rd_T39 l1 x7_1).f0) : Int).toNat)).size + ((rd_T39 l1 x7_1).f2).size) = False := eq_false (Nat.not_lt.2 c9)
    have H' := Aside0.mk H; clear H; have p342 : 0 ≤ (x7_1 : Int) := zt; have q342 : x7_1 < (l1.length : Int) := zt; obtain ⟨ad342, e342, hx342_0, hx342_1, hx342_2⟩ := at_T39 HR1.out x7_1 p342 q342
    cases e342
    replace p342 := eq_true p342; replace q342 := eq_true q342; have p343 : 0 ≤ (x7_1 : Int) := zt; have q343 : x7_1 < (l1.length : Int) := zt; obtain ⟨ad343, e343, hx343_0, hx343_1, hx343_2⟩ := at_T39 HR1.out x7_1 p343 q343
    obtain rfl : ad342 = ad343 := (by injection e343)
    replace p343 := eq_true p343; replace q343 := eq_true q343; have p344 : 0 ≤ (x7_1 : Int) := zt; have q344 : x7_1 < (l1.length : Int) := zt; obtain ⟨ad344, e344, hx344_0, hx344_1, hx344_2⟩ := at_T39 HR1.out x7_1 p344 q344
    obtain rfl : ad342 = ad344 := (by injection e344)
    replace p344 := eq_true p344; replace q344 := eq_true q344; go_wp2
    repeat (go_quiet (fail); try go_wp2)
    go_roundg k1
    case measure => have := HK1.out; omega
    case rel => exact ⟨((x5_1 ++ (a0.extract (x6_1 : Int).toNat (((rd_T39 l1 x7_1).f0) : Int).toNat)) ++ ((rd_T39 l1 x7_1).f2)), ((rd_T39 l1 x7_1).f1), (wrap64 (x7_1 + 1)), zs, zs, zs, H', zk, zX⟩
   ·rw [if_neg c3] at H; have c3b0 := decide_eq_false c3; clear c3; replace H := zi2 H; obtain ⟨c10b0, c10b1, H⟩ := H; replace H := zi2 H; obtain ⟨c11b0, c11b1, H⟩ := H; replace H := zi H; obtain ⟨c12, H⟩ := H; have c12b0 := eq_true c12; have c12b1 : decide (x5_1.size + (a0.extract (x6_1 : Int).toNat a0.size).size ≤ 9223372036854775807) = true := decide_eq_true c12
    try have c12b2 : (9223372036854775807 < x5_1.size + (a0.extract (x6_1 : Int).toNat a0.size).size) = False := eq_false (Nat.not_lt.2 c12)
    obtain rfl := Option.some.inj H; go_wp2
    repeat (go_quiet (fail); try go_wp2)
    go_ret; exact ⟨zs, zX⟩

end Go.Proofs.Ytahcpappailjgaa.P

namespace Go.Proofs.Ytahcpappailjgaa.P
open Go.RowKit Go.Proofs.YtahcpappailjgaaW.PrintWords Go.Proofs.YtahcpappailjgaaW.PrintLast Go.Proofs.YtahcpappailjgaaW.PrintMore
attribute [local go_sem] max2_int min2_int max_two min_two max_three min_three max_four min_four
set_option linter.unusedVariables false
set_option linter.unusedSimpArgs false

/-! ### marginaliaref01_Places: function 41 -/
def marginaliaref01_Places.l0 : Nat → List (S39) → List (S75) → Int → Int → Option ((List (S75)))
 | 0, _, _, _, _ => none
 | k + 1, x0, x3, x4, x5 => if x5 < (x0.length : Int) then (if 0 ≤ x5 then (if x3.length < 8796093022208 then (marginaliaref01_Places.l0 k x0 (x3 ++ [(⟨wrap64 (((rd_T39 x0 x5).f0) + x4), wrap64 ((wrap64 (((rd_T39 x0 x5).f0) + x4)) + (((rd_T39 x0 x5).f2).size : Int))⟩ : S75)]) (wrap64 (x4 + (wrap64 ((((rd_T39 x0 x5).f2).size : Int) - (wrap64 (((rd_T39 x0 x5).f1) - ((rd_T39 x0 x5).f0))))))) (wrap64 (x5 + 1))) else (none)) else (none)) else (some x3)
def marginaliaref01_Places.f (k : Nat) (l0 : List (S39)) : Option ((List (S75))) := marginaliaref01_Places.l0 k l0 ([] : List (S75)) 0 0
set_option maxHeartbeats 8000000 in
set_option maxRecDepth 100000 in
theorem marginaliaref01_Places.calls (k : Nat) (A0 : Option Addr) (c0 : Nat) (l0 : List (S39)) (r : List (S75)) (w : World) (hr0 : Kd.C k39 w A0 l0.length l0) (hc0 : l0.length ≤ c0) (h : marginaliaref01_Places.f k l0 = some r) :
  Calls Try.prog 41 #[.slice A0 l0.length c0] w fun e w' => ∃ v0_ : Value, e = .returned (v0_) ∧ Kd.R k75 75 w' w.heap.size (fun _ => True) v0_ r ∧ Below w.heap.size w w' := by
 have hu39 := Try.underlying39; have hu75 := Try.underlying75; have HR0 := Aside0.mk hr0; have HC0 := Aside0.mk hc0; clear hr0 hc0; have HB := Aside0.mk (Below.refl w.heap.size w); have H : (marginaliaref01_Places.l0 k l0 ([] : List (S75)) 0 0) = some r := h; clear h; have H' := Aside0.mk H; clear H; go_enter Try.func41, Try.ntmps41; go_wp2
 go_loopg [3, 4, 5] k (fun kq v3 v4 v5 w' => ∃ (x3_1 : List (S75)) (x4_1 : Int) (x5_1 : Int), v4 = .int .i64 x4_1 ∧ v5 = .int .i64 x5_1 ∧ Aside0 (marginaliaref01_Places.l0 kq l0 x3_1 x4_1 x5_1 = some r) ∧ Aside0 (kq ≤ k) ∧ Aside0 (Kd.R k75 75 w' w.heap.size (fun _ => True) v3 x3_1) ∧ Aside0 (Below w.heap.size w w'))
 case atStart => exact ⟨(([] : List (S75))), (0), (0), zs, zs, H', ⟨Nat.le_refl _⟩, ⟨by first | exact Kd.R_nil _ _ _ _ _ | exact Kd.N_nil _ _ _ _ _ | exact Kd.V_nil _ _ _ _ _ | exact Kd.Q_nil _ _ _ _ _ | exact Kd.S_nil _ _ _ _ _⟩, ⟨zb⟩⟩
 case round =>
  clear H'; obtain ⟨x3_1, x4_1, x5_1, rfl, rfl, HA, HK1, HO_3, HB⟩ := hrel
  cases gk with
  | zero => exact absurd HA.out (by simp [marginaliaref01_Places.l0])
  | succ k1 =>
   have H := HA.out; clear HA; simp only [marginaliaref01_Places.l0] at H; by_cases c2 : x5_1 < (l0.length : Int)
   ·rw [if_pos c2] at H; have c2b0 := decide_eq_true c2; clear c2; replace H := zi1 H; obtain ⟨c3b0, H⟩ := H; replace H := zi H; obtain ⟨c4, H⟩ := H; have LMc4 := Aside0.mk c4; clear c4
    obtain ⟨y413, hy413⟩ : ∃ y_ : List (S75), y_ = (x3_1 ++ [(⟨wrap64 (((rd_T39 l0 x5_1).f0) + x4_1), wrap64 ((wrap64 (((rd_T39 l0 x5_1).f0) + x4_1)) + (((rd_T39 l0 x5_1).f2).size : Int))⟩ : S75)]) := ⟨_, rfl⟩
    replace H : (marginaliaref01_Places.l0 k1 l0 y413 (wrap64 (x4_1 + (wrap64 ((((rd_T39 l0 x5_1).f2).size : Int) - (wrap64 (((rd_T39 l0 x5_1).f1) - ((rd_T39 l0 x5_1).f0))))))) (wrap64 (x5_1 + 1))) = some r := by first | (rw [hy413]; with_reducible exact H) | (have H2_ := (Option.bind_some _ _).symm.trans H; rw [hy413]; with_reducible exact H2_) | (have H2_ := (Option.bind_some _ _).symm.trans H; with_reducible exact H2_) | with_reducible exact H | (rw [hy413]; exact H) | exact H
    have Ny413 := Aside0.mk hy413; clear hy413; have H' := Aside0.mk H; clear H; have p411 : 0 ≤ (x5_1 : Int) := zt; have q411 : x5_1 < (l0.length : Int) := zt; obtain ⟨ad411, e411, hx411_0, hx411_1, hx411_2⟩ := at_T39 HR0.out x5_1 p411 q411
    cases e411
    replace hx411_0 := zh HB hx411_0; replace hx411_1 := zh HB hx411_1; replace hx411_2 := zh HB hx411_2; replace p411 := eq_true p411; replace q411 := eq_true q411
    go_wp2_with (first | ((with_reducible refine zD 6 rfl ?_); refine zx 6 #[.int .i64 0, .int .i64 0, .string (⟨#[]⟩ : ByteArray)] 39 ?_; intro gb412 hg w5 hbox hb; replace HO_3 := (zRb HO_3 hb); have BK412 := Aside0.mk (hbox); have GW412 := (zq hg : Aside0 (w.heap.size ≤ gb412)); have GE412 := GW412; replace HB := (zB hb); clear hb hbox hg; obtain ⟨hcz6_0, hcz6_1, hcz6_2⟩ := zc3 BK412; obtain ⟨hfz6_0, hfz6_1, hfz6_2⟩ := zz3 BK412) | ((with_reducible refine gate_builtin (b := .append) (xs := #[.tmp 22, .tmp 30]) rfl ?_); at_builtin; refine Kd.R_append k75 (w0 := w) w.heap.size rfl (.tmp 22) (.tmp 30) 71 75 (.agg #[(.int .i64 0), (.int .i64 0)]) 16 rfl Try.underlying71 info75 rfl (by decide) (by omega) u3 x3_1 (⟨wrap64 (((rd_T39 l0 x5_1).f0) + x4_1), wrap64 ((wrap64 (((rd_T39 l0 x5_1).f0) + x4_1)) + (((rd_T39 l0 x5_1).f2).size : Int))⟩ : S75) [.int .i64 (wrap64 (((rd_T39 l0 x5_1).f0) + x4_1)), .int .i64 (wrap64 ((wrap64 (((rd_T39 l0 x5_1).f0) + x4_1)) + (((rd_T39 l0 x5_1).f2).size : Int)))] (fun _ => True) (fun _ => False) rfl (by first | (go_simp; done) | (go_simp; rfl)) ?aP (fun _ hk => hk.elim) ?aF ?aO ?aB ?aS ?aL ?_; (case aP => exact k75_mkM _ _ _ (⟨wrap64 (((rd_T39 l0 x5_1).f0) + x4_1), wrap64 ((wrap64 (((rd_T39 l0 x5_1).f0) + x4_1)) + (((rd_T39 l0 x5_1).f2).size : Int))⟩ : S75)); (case aB => exact zb); (case aF => exact (fun _ _ => trivial)); (case aO => exact (by (with_reducible repeat (first | apply Kd.R_alloc | apply Kd.R_drewN | apply Kd.R_drew)); exact Kd.R_mono (Kd.R_far (p := ⟨gb412, 2, none⟩) (Kd.R_far (p := ⟨gb412, 1, none⟩) (Kd.R_far (p := ⟨gb412, 0, none⟩) (Kd.R_types HO_3.out BK412.out (by decide)) (fun _ hk => hk.2) (.int .i64 ((rd_T39 l0 x5_1).f0))) (fun _ hk => hk.2) (.int .i64 ((rd_T39 l0 x5_1).f1))) (fun _ hk => hk.2) (.string ((rd_T39 l0 x5_1).f2))) (fun _ hk => trivial))); (case aS => exact (below_size zb)); (case aL => have := LMc4.out; omega); intro v414 w7 ho hb hg hat; rw [← Ny413.out] at ho; replace BK412 := Aside0.mk (blk_grown (g := gb412) (o := .cells #[.int .i64 ((rd_T39 l0 x5_1).f0), .int .i64 ((rd_T39 l0 x5_1).f1), .string ((rd_T39 l0 x5_1).f2)] 39 (0, 0)) zw hg (Kd.R_ne HO_3.out BK412.out (by decide))); replace HB := Aside0.mk (hb); have HO415 := Aside0.mk (ho); clear HO_3 ho hb hg hat; obtain ⟨hcz8_0, hcz8_1, hcz8_2⟩ := zc3 BK412; obtain ⟨hfz8_0, hfz8_1, hfz8_2⟩ := zz3 BK412))
    go_roundg k1
    case measure => have := HK1.out; omega
    case rel => exact ⟨(y413), (wrap64 (x4_1 + (wrap64 ((((rd_T39 l0 x5_1).f2).size : Int) - (wrap64 (((rd_T39 l0 x5_1).f1) - ((rd_T39 l0 x5_1).f0))))))), (wrap64 (x5_1 + 1)), zs, zs, H', zk, ⟨by (with_reducible repeat (first | apply Kd.R_alloc | apply Kd.R_drewN | apply Kd.R_drew)); exact HO415.out⟩, ⟨zb⟩⟩
   ·rw [if_neg c2] at H; have c2b0 := decide_eq_false c2; clear c2; obtain rfl := Option.some.inj H; go_wp2; go_ret; exact ⟨_, zr, by (with_reducible repeat (first | apply Kd.R_alloc | apply Kd.R_drewN | apply Kd.R_drew)); exact HO_3.out, zb⟩

end Go.Proofs.Ytahcpappailjgaa.P

namespace Go.Proofs.Ytahcpappailjgaa.P
open Go.RowKit Go.Proofs.YtahcpappailjgaaW.PrintWords Go.Proofs.YtahcpappailjgaaW.PrintLast Go.Proofs.YtahcpappailjgaaW.PrintMore
attribute [local go_sem] max2_int min2_int max_two min_two max_three min_three max_four min_four
set_option linter.unusedVariables false
set_option linter.unusedSimpArgs false

/-! ### marginaliaref04_Line: function 24 -/
mutual
def marginaliaref04_Line.l0 : Nat → ByteArray → List (S75) → List Bool → Int → Option (Int)
 | 0, _, _, _, _ => none
 | k + 1, x5, x6, x7, x8 => if x8 < (x6.length : Int) then (if 0 ≤ x8 then (marginaliaref04_Line.l1 k x5 x6 x7 x8 ((rd_T75 x6 x8).f0) ((rd_T75 x6 x8).f1)) else (none)) else (marginaliaref04_Line.l4 k x7 0 0)
def marginaliaref04_Line.j2 : Nat → ByteArray → List (S75) → List Bool → Int → Int → Int → Option (Int)
 | 0, _, _, _, _, _, _ => none
 | k + 1, x5, x6, x7, x8, x9, x10 => marginaliaref04_Line.l2 k x5 x6 x7 x8 x9 x10
def marginaliaref04_Line.j4 : Nat → ByteArray → List (S75) → List Bool → Int → Int → Int → Option (Int)
 | 0, _, _, _, _, _, _ => none
 | k + 1, x5, x6, x7, x8, x9, x10 => marginaliaref04_Line.l3 k x5 x6 x7 x8 x10 x9
def marginaliaref04_Line.l3 : Nat → ByteArray → List (S75) → List Bool → Int → Int → Int → Option (Int)
 | 0, _, _, _, _, _, _ => none
 | k + 1, x5, x6, x7, x8, x10, x11 => if x11 ≤ x10 then (if x11 < (x5.size : Int) then (if 0 ≤ x11 then (if x11 < (x7.length : Int) then (marginaliaref04_Line.l3 k x5 x6 (x7.set (x11 : Int).toNat true) x8 x10 (wrap64 (x11 + 1))) else (none)) else (none)) else (marginaliaref04_Line.l0 k x5 x6 x7 (wrap64 (x8 + 1)))) else (marginaliaref04_Line.l0 k x5 x6 x7 (wrap64 (x8 + 1)))
def marginaliaref04_Line.l2 : Nat → ByteArray → List (S75) → List Bool → Int → Int → Int → Option (Int)
 | 0, _, _, _, _, _, _ => none
 | k + 1, x5, x6, x7, x8, x9, x10 => if x10 < (x5.size : Int) then (if 0 ≤ x10 then (if (bt x5 x10) = 10 then (marginaliaref04_Line.j4 k x5 x6 x7 x8 x9 x10) else (marginaliaref04_Line.l2 k x5 x6 x7 x8 x9 (wrap64 (x10 + 1)))) else (none)) else (marginaliaref04_Line.j4 k x5 x6 x7 x8 x9 x10)
def marginaliaref04_Line.l1 : Nat → ByteArray → List (S75) → List Bool → Int → Int → Int → Option (Int)
 | 0, _, _, _, _, _, _ => none
 | k + 1, x5, x6, x7, x8, x9, x10 => if x9 > 0 then (if 0 ≤ (wrap64 (x9 - 1)) then (if (wrap64 (x9 - 1)) < (x5.size : Int) then (if (bt x5 (wrap64 (x9 - 1))) = 10 then (marginaliaref04_Line.j2 k x5 x6 x7 x8 x9 x10) else (marginaliaref04_Line.l1 k x5 x6 x7 x8 (wrap64 (x9 - 1)) x10)) else (none)) else (none)) else (marginaliaref04_Line.j2 k x5 x6 x7 x8 x9 x10)
def marginaliaref04_Line.l4 : Nat → List Bool → Int → Int → Option (Int)
 | 0, _, _, _ => none
 | k + 1, x7, x12, x13 => if x13 < (x7.length : Int) then (if 0 ≤ x13 then (if rdOf false x7 x13 = true then (marginaliaref04_Line.l4 k x7 (wrap64 (x12 + 1)) (wrap64 (x13 + 1))) else (marginaliaref04_Line.l4 k x7 x12 (wrap64 (x13 + 1)))) else (none)) else (some x12)
end
def marginaliaref04_Line.f (k : Nat) (a0 : ByteArray) (l1 : List (S39)) : Option (Int) := (marginaliaref01_Apply.f k a0 l1).bind fun t416 => ((marginaliaref01_Places.f k l1).bind fun t417 => (if 0 ≤ (t416.size : Int) then (if ((t416.size : Int) : Int).toNat ≤ 281474976710656 then (marginaliaref04_Line.l0 k t416 t417 (List.replicate ((t416.size : Int) : Int).toNat false) 0) else (none)) else (none)))
set_option maxHeartbeats 8000000 in
set_option maxRecDepth 100000 in
theorem marginaliaref04_Line.calls (k : Nat) (a0 : ByteArray) (A1 : Option Addr) (c1 : Nat) (l1 : List (S39)) (r : Int) (w : World) (hr1 : Kd.C k39 w A1 l1.length l1) (hc1 : l1.length ≤ c1) (h : marginaliaref04_Line.f k a0 l1 = some r) :
  Calls Try.prog 24 #[.string a0, .slice A1 l1.length c1] w fun e w' => e = .returned (.int .i64 r) ∧ Below w.heap.size w w' := by
 have HR1 := Aside0.mk hr1; have HC1 := Aside0.mk hc1; clear hr1 hc1; have HB := Aside0.mk (Below.refl w.heap.size w); have H : ((marginaliaref01_Apply.f k a0 l1).bind fun t416 => ((marginaliaref01_Places.f k l1).bind fun t417 => (if 0 ≤ (t416.size : Int) then (if ((t416.size : Int) : Int).toNat ≤ 281474976710656 then (marginaliaref04_Line.l0 k t416 t417 (List.replicate ((t416.size : Int) : Int).toNat false) 0) else (none)) else (none)))) = some r := h; clear h; replace H := zo H; obtain ⟨t416, A3, H⟩ := H; replace H := zo H; obtain ⟨t417, A4, H⟩ := H; replace H := zi2 H; obtain ⟨c5b0, c5b1, H⟩ := H; replace H := zi2 H; obtain ⟨c6b0, c6b1, H⟩ := H
 obtain ⟨y420, hy420⟩ : ∃ y_ : List Bool, y_ = (List.replicate ((t416.size : Int) : Int).toNat false) := ⟨_, rfl⟩
 replace H : (marginaliaref04_Line.l0 k t416 t417 y420 0) = some r := by first | (rw [hy420]; with_reducible exact H) | (have H2_ := (Option.bind_some _ _).symm.trans H; rw [hy420]; with_reducible exact H2_) | (have H2_ := (Option.bind_some _ _).symm.trans H; with_reducible exact H2_) | with_reducible exact H | (rw [hy420]; exact H) | exact H
 have Ny420 := Aside0.mk hy420; clear hy420; have H' := Aside0.mk H; clear H; go_enter Try.func24, Try.ntmps24
 go_wp2_with (first | (go_at_call 16; (with_reducible refine (marginaliaref01_Apply.calls k a0 _ _ l1 t416 _ ?side1 ?side2 A3.out).mono ?_); (case side1 => exact zE HR1); (case side2 => exact HC1.out); rintro e w' ⟨rfl, ⟨nd, rfl⟩⟩; (try first | exact ⟨rfl, _, World.drewN_drewN _ _ _⟩ | exact ⟨rfl, _, Eq.trans (World.drewN_drewN _ _ _) (congrArg (World.drewN _) (Nat.add_assoc _ _ _))⟩)) | (go_at_call 41; (with_reducible refine (marginaliaref01_Places.calls k _ _ l1 t417 _ ?side1 ?side2 A4.out).mono ?_); (case side1 => exact zE HR1); (case side2 => exact HC1.out); rintro e w7 ⟨v418, rfl, ho0, hb⟩; have HO419 := Aside0.mk (Kd.R_lower ho0 (below_size zb)); replace HB := (zB hb); (try clear hb); (try clear hb2); (try clear hk); (try clear hi); (try clear ho0)) | ((with_reducible refine zD 21 rfl ?_); (try (refine gate_guard (by rfl) ?_; dsimp only)); refine Kd.R_make Kd.bool _ 4 rfl (N := 21) rfl 73 _ _ rfl (t416.size : Int) rfl rfl Try.underlying73 (.bool false) 1 info4 rfl (by decide) (by omega) false (ok := fun _ => True) (okp := fun _ => True) rfl (fun _ hk => hk) trivial (zt) (Nat.le_trans (Nat.mul_le_mul_right _ (zt : (t416.size : Int).toNat ≤ 281474976710656)) (by omega)) (Below.refl _ _) (Nat.le_refl _) ?_; intro v421 w8 ho9 hb hg_ hnew_; clear hg_ hnew_; (first | rw [← Ny420.out] at ho9 | (simp only [Int.reduceToNat] at ho9; rw [← Ny420.out] at ho9)); replace HO419 := (zRb HO419 hb); have HO422 := Aside0.mk (Kd.R_lower ho9 (below_size zb)); replace HB := (zB hb); clear hb ho9))
 repeat (go_quiet (first | (go_at_call 16; (with_reducible refine (marginaliaref01_Apply.calls k a0 _ _ l1 t416 _ ?side1 ?side2 A3.out).mono ?_); (case side1 => exact zE HR1); (case side2 => exact HC1.out); rintro e w' ⟨rfl, ⟨nd, rfl⟩⟩; (try first | exact ⟨rfl, _, World.drewN_drewN _ _ _⟩ | exact ⟨rfl, _, Eq.trans (World.drewN_drewN _ _ _) (congrArg (World.drewN _) (Nat.add_assoc _ _ _))⟩)) | (go_at_call 41; (with_reducible refine (marginaliaref01_Places.calls k _ _ l1 t417 _ ?side1 ?side2 A4.out).mono ?_); (case side1 => exact zE HR1); (case side2 => exact HC1.out); rintro e w7 ⟨v418, rfl, ho0, hb⟩; have HO419 := Aside0.mk (Kd.R_lower ho0 (below_size zb)); replace HB := (zB hb); (try clear hb); (try clear hb2); (try clear hk); (try clear hi); (try clear ho0)) | ((with_reducible refine zD 21 rfl ?_); (try (refine gate_guard (by rfl) ?_; dsimp only)); refine Kd.R_make Kd.bool _ 4 rfl (N := 21) rfl 73 _ _ rfl (t416.size : Int) rfl rfl Try.underlying73 (.bool false) 1 info4 rfl (by decide) (by omega) false (ok := fun _ => True) (okp := fun _ => True) rfl (fun _ hk => hk) trivial (zt) (Nat.le_trans (Nat.mul_le_mul_right _ (zt : (t416.size : Int).toNat ≤ 281474976710656)) (by omega)) (Below.refl _ _) (Nat.le_refl _) ?_; intro v421 w8 ho9 hb hg_ hnew_; clear hg_ hnew_; (first | rw [← Ny420.out] at ho9 | (simp only [Int.reduceToNat] at ho9; rw [← Ny420.out] at ho9)); replace HO419 := (zRb HO419 hb); have HO422 := Aside0.mk (Kd.R_lower ho9 (below_size zb)); replace HB := (zB hb); clear hb ho9)); try go_wp2_with (first | (go_at_call 16; (with_reducible refine (marginaliaref01_Apply.calls k a0 _ _ l1 t416 _ ?side1 ?side2 A3.out).mono ?_); (case side1 => exact zE HR1); (case side2 => exact HC1.out); rintro e w' ⟨rfl, ⟨nd, rfl⟩⟩; (try first | exact ⟨rfl, _, World.drewN_drewN _ _ _⟩ | exact ⟨rfl, _, Eq.trans (World.drewN_drewN _ _ _) (congrArg (World.drewN _) (Nat.add_assoc _ _ _))⟩)) | (go_at_call 41; (with_reducible refine (marginaliaref01_Places.calls k _ _ l1 t417 _ ?side1 ?side2 A4.out).mono ?_); (case side1 => exact zE HR1); (case side2 => exact HC1.out); rintro e w7 ⟨v418, rfl, ho0, hb⟩; have HO419 := Aside0.mk (Kd.R_lower ho0 (below_size zb)); replace HB := (zB hb); (try clear hb); (try clear hb2); (try clear hk); (try clear hi); (try clear ho0)) | ((with_reducible refine zD 21 rfl ?_); (try (refine gate_guard (by rfl) ?_; dsimp only)); refine Kd.R_make Kd.bool _ 4 rfl (N := 21) rfl 73 _ _ rfl (t416.size : Int) rfl rfl Try.underlying73 (.bool false) 1 info4 rfl (by decide) (by omega) false (ok := fun _ => True) (okp := fun _ => True) rfl (fun _ hk => hk) trivial (zt) (Nat.le_trans (Nat.mul_le_mul_right _ (zt : (t416.size : Int).toNat ≤ 281474976710656)) (by omega)) (Below.refl _ _) (Nat.le_refl _) ?_; intro v421 w8 ho9 hb hg_ hnew_; clear hg_ hnew_; (first | rw [← Ny420.out] at ho9 | (simp only [Int.reduceToNat] at ho9; rw [← Ny420.out] at ho9)); replace HO419 := (zRb HO419 hb); have HO422 := Aside0.mk (Kd.R_lower ho9 (below_size zb)); replace HB := (zB hb); clear hb ho9)))
 go_loopg [8] k (fun kq v8 w' => ∃ (x7_1 : List Bool) (x8_1 : Int), v8 = .int .i64 x8_1 ∧ Aside0 (marginaliaref04_Line.l0 kq t416 t417 x7_1 x8_1 = some r) ∧ Aside0 (kq ≤ k) ∧ Aside0 (Kd.R k75 75 w' w.heap.size (fun _ => True) v418 t417) ∧ Aside0 (Kd.R Kd.bool 4 w' w.heap.size (fun _ => True) v421 x7_1) ∧ Aside0 (Below w.heap.size w w'))
 case atStart => exact ⟨(y420), (0), zs, H', ⟨Nat.le_refl _⟩, ⟨by (with_reducible repeat (first | apply Kd.R_alloc | apply Kd.R_drewN | apply Kd.R_drew)); exact HO419.out⟩, ⟨by (with_reducible repeat (first | apply Kd.R_alloc | apply Kd.R_drewN | apply Kd.R_drew)); exact HO422.out⟩, ⟨zb⟩⟩
 case round =>
  clear H'; obtain ⟨x7_1, x8_1, rfl, HA, HK1, HO_6, HO_7, HB⟩ := hrel
  cases gk with
  | zero => exact absurd HA.out (by simp [marginaliaref04_Line.l0])
  | succ k1 =>
   have H := HA.out; clear HA; simp only [marginaliaref04_Line.l0] at H; by_cases c10 : x8_1 < (t417.length : Int)
   ·rw [if_pos c10] at H; have c10b0 := decide_eq_true c10; clear c10; replace H := zi1 H; obtain ⟨c11b0, H⟩ := H; have HC12 := Aside0.mk H; clear H; obtain ⟨Ao13, co13, eo13⟩ := Kd.R_slice HO_6.out; subst eo13; have p423 : 0 ≤ (x8_1 : Int) := zt; have q423 : x8_1 < (t417.length : Int) := zt; obtain ⟨ad423, e423, hx423_0, hx423_1⟩ := at_T75 (Kd.R_reads' HO_6.out).2.2 x8_1 p423 q423
    cases e423
    replace p423 := eq_true p423; replace q423 := eq_true q423; have p424 : 0 ≤ (x8_1 : Int) := zt; have q424 : x8_1 < (t417.length : Int) := zt; obtain ⟨ad424, e424, hx424_0, hx424_1⟩ := at_T75 (Kd.R_reads' HO_6.out).2.2 x8_1 p424 q424
    obtain rfl : ad423 = ad424 := (by injection e424)
    replace p424 := eq_true p424; replace q424 := eq_true q424
    go_upto_block 2 with (fail)
    repeat (go_quiet (fail); go_upto_block 2 with (fail))
    go_cut [9] (fun v9 wc => ∃ (kq : Nat) (x9_11 : Int), v9 = .int .i64 x9_11 ∧ Aside0 (marginaliaref04_Line.j2 kq t416 t417 x7_1 x8_1 x9_11 ((rd_T75 t417 x8_1).f1) = some r) ∧ Aside0 (kq ≤ k1) ∧ Aside0 (Kd.R k75 75 wc w.heap.size (fun _ => True) (.slice (some ad423) t417.length co13) t417) ∧ Aside0 (Kd.R Kd.bool 4 wc w.heap.size (fun _ => True) v421 x7_1) ∧ Aside0 (Below w.heap.size w wc))
    case first =>
     have H := HC12.out; clear HC12; have H' := Aside0.mk H; clear H; go_wp2
     repeat (go_quiet (fail); try go_wp2)
     go_loopg [9] k1 (fun kq v9 w' => ∃ (x9_2 : Int), v9 = .int .i64 x9_2 ∧ Aside0 (marginaliaref04_Line.l1 kq t416 t417 x7_1 x8_1 x9_2 ((rd_T75 t417 x8_1).f1) = some r) ∧ Aside0 (kq ≤ k1) ∧ Aside0 (Kd.R k75 75 w' w.heap.size (fun _ => True) (.slice (some ad423) t417.length co13) t417) ∧ Aside0 (Kd.R Kd.bool 4 w' w.heap.size (fun _ => True) v421 x7_1) ∧ Aside0 (Below w.heap.size w w'))
     case atStart => exact ⟨((rd_T75 t417 x8_1).f0), zs, H', ⟨Nat.le_refl _⟩, ⟨by (with_reducible repeat (first | apply Kd.R_alloc | apply Kd.R_drewN | apply Kd.R_drew)); exact HO_6.out⟩, ⟨by (with_reducible repeat (first | apply Kd.R_alloc | apply Kd.R_drewN | apply Kd.R_drew)); exact HO_7.out⟩, ⟨zb⟩⟩
     case round =>
      clear H'; obtain ⟨x9_2, rfl, HA, HK2, HO_6, HO_7, HB⟩ := hrel
      cases gk with
      | zero => exact absurd HA.out (by simp [marginaliaref04_Line.l1])
      | succ k2 =>
       have H := HA.out; clear HA; simp only [marginaliaref04_Line.l1] at H; by_cases c14 : x9_2 > 0
       ·rw [if_pos c14] at H; have c14b0 := decide_eq_true c14; clear c14
        (first | rw [c14b0] | (simp only [i64_w, i32_w]; rw [c14b0]) | skip)
        obtain ⟨ji15, hji15⟩ : ∃ j_ : Int, (wrap64 (x9_2 - 1)) = j_ := ⟨_, rfl⟩
        replace H : (if 0 ≤ (ji15) then (if (ji15) < (t416.size : Int) then (if (bt t416 (ji15)) = 10 then (marginaliaref04_Line.j2 k2 t416 t417 x7_1 x8_1 x9_2 ((rd_T75 t417 x8_1).f1)) else (marginaliaref04_Line.l1 k2 t416 t417 x7_1 x8_1 ji15 ((rd_T75 t417 x8_1).f1))) else (none)) else (none)) = some r := by first | (rw [hji15] at H; exact H) | (simp only [hji15] at H ⊢; exact H)
        have hji15w : (IntKind.i64.wrap (x9_2 - 1)) = ji15 := (i64_w _).trans hji15; replace H := zi1 H; obtain ⟨c16b0, H⟩ := H; replace H := zi1 H; obtain ⟨c17b0, H⟩ := H; by_cases c19 : (bt t416 (ji15)) = 10
        ·rw [if_pos c19] at H; have c19b0 : ((bt t416 (ji15)) == 10) = true := beq_iff_eq.mpr c19; have c19b1 : ((bt t416 (ji15)) != 10) = false := bne_eq_false_iff_eq.mpr c19; clear c19; have H' := Aside0.mk H; clear H; have p18 : (0 ≤ ((ji15) : Int)) = True := zT; have q18 : ((ji15) < (t416.size : Int)) = True := zT; have hx18 := bt_at t416 (ji15); go_wp2
         repeat (go_quiet (fail); try go_wp2)
         go_meet
         case rel => exact ⟨_, (x9_2), zs, H', ⟨by have := HK1.out; have := HK2.out; first | omega | exact Nat.le_refl _⟩, ⟨by (with_reducible repeat (first | apply Kd.R_alloc | apply Kd.R_drewN | apply Kd.R_drew)); exact HO_6.out⟩, ⟨by (with_reducible repeat (first | apply Kd.R_alloc | apply Kd.R_drewN | apply Kd.R_drew)); exact HO_7.out⟩, ⟨zb⟩⟩
        ·rw [if_neg c19] at H; have c19b0 : ((bt t416 (ji15)) == 10) = false := beq_eq_false_iff_ne.mpr c19; have c19b1 : ((bt t416 (ji15)) != 10) = true := bne_iff_ne.mpr c19; have H' := Aside0.mk H; clear H; have p18 : (0 ≤ ((ji15) : Int)) = True := zT; have q18 : ((ji15) < (t416.size : Int)) = True := zT; have hx18 := bt_at t416 (ji15); go_wp2
         repeat (go_quiet (fail); try go_wp2)
         go_roundg k2
         case measure => have := HK1.out; have := HK2.out; omega
         case rel => exact ⟨(ji15), (by first | rfl | (simp; done) | (simp only [← hji15] <;> (first | rfl | simp)) | (simp [*]; done)), H', ⟨by have := HK1.out; have := HK2.out; omega⟩, ⟨by (with_reducible repeat (first | apply Kd.R_alloc | apply Kd.R_drewN | apply Kd.R_drew)); exact HO_6.out⟩, ⟨by (with_reducible repeat (first | apply Kd.R_alloc | apply Kd.R_drewN | apply Kd.R_drew)); exact HO_7.out⟩, ⟨zb⟩⟩
       ·rw [if_neg c14] at H; have c14b0 := decide_eq_false c14; clear c14
        (first | rw [c14b0] | (simp only [i64_w, i32_w]; rw [c14b0]) | skip)
        have H' := Aside0.mk H; clear H; go_wp2
        repeat (go_quiet (fail); try go_wp2)
        go_meet
        case rel => exact ⟨_, (x9_2), zs, H', ⟨by have := HK1.out; have := HK2.out; first | omega | exact Nat.le_refl _⟩, ⟨by (with_reducible repeat (first | apply Kd.R_alloc | apply Kd.R_drewN | apply Kd.R_drew)); exact HO_6.out⟩, ⟨by (with_reducible repeat (first | apply Kd.R_alloc | apply Kd.R_drewN | apply Kd.R_drew)); exact HO_7.out⟩, ⟨zb⟩⟩
    case rest =>
     clear HC12; obtain ⟨kq, x9_11, rfl, HA, HJ11, HO_6, HO_7, HB⟩ := hcut
     cases kq with
     | zero => exact absurd HA.out (by simp [marginaliaref04_Line.j2])
     | succ kj11 =>
      have H := HA.out; clear HA; simp only [marginaliaref04_Line.j2] at H; have HC20 := Aside0.mk H; clear H
      go_upto_block 4 with (fail)
      repeat (go_quiet (fail); go_upto_block 4 with (fail))
      go_cut [10] (fun v10 wc => ∃ (kq : Nat) (x10_19 : Int), v10 = .int .i64 x10_19 ∧ Aside0 (marginaliaref04_Line.j4 kq t416 t417 x7_1 x8_1 x9_11 x10_19 = some r) ∧ Aside0 (kq ≤ kj11) ∧ Aside0 (Kd.R k75 75 wc w.heap.size (fun _ => True) (.slice (some ad423) t417.length co13) t417) ∧ Aside0 (Kd.R Kd.bool 4 wc w.heap.size (fun _ => True) v421 x7_1) ∧ Aside0 (Below w.heap.size w wc))
      case first =>
       have H := HC20.out; clear HC20; have H' := Aside0.mk H; clear H; go_wp2
       repeat (go_quiet (fail); try go_wp2)
       go_loopg [10] kj11 (fun kq v10 w' => ∃ (x10_3 : Int), v10 = .int .i64 x10_3 ∧ Aside0 (marginaliaref04_Line.l2 kq t416 t417 x7_1 x8_1 x9_11 x10_3 = some r) ∧ Aside0 (kq ≤ kj11) ∧ Aside0 (Kd.R k75 75 w' w.heap.size (fun _ => True) (.slice (some ad423) t417.length co13) t417) ∧ Aside0 (Kd.R Kd.bool 4 w' w.heap.size (fun _ => True) v421 x7_1) ∧ Aside0 (Below w.heap.size w w'))
       case atStart => exact ⟨(((rd_T75 t417 x8_1).f1)), zs, H', ⟨Nat.le_refl _⟩, ⟨by (with_reducible repeat (first | apply Kd.R_alloc | apply Kd.R_drewN | apply Kd.R_drew)); exact HO_6.out⟩, ⟨by (with_reducible repeat (first | apply Kd.R_alloc | apply Kd.R_drewN | apply Kd.R_drew)); exact HO_7.out⟩, ⟨zb⟩⟩
       case round =>
        clear H'; obtain ⟨x10_3, rfl, HA, HK3, HO_6, HO_7, HB⟩ := hrel
        cases gk with
        | zero => exact absurd HA.out (by simp [marginaliaref04_Line.l2])
        | succ k3 =>
         have H := HA.out; clear HA; simp only [marginaliaref04_Line.l2] at H; by_cases c21 : x10_3 < (t416.size : Int)
         ·rw [if_pos c21] at H; have c21b0 := decide_eq_true c21; clear c21
          (first | rw [c21b0] | (simp only [i64_w, i32_w]; rw [c21b0]) | skip)
          replace H := zi1 H; obtain ⟨c22b0, H⟩ := H; by_cases c24 : (bt t416 x10_3) = 10
          ·rw [if_pos c24] at H; have c24b0 : ((bt t416 x10_3) == 10) = true := beq_iff_eq.mpr c24; have c24b1 : ((bt t416 x10_3) != 10) = false := bne_eq_false_iff_eq.mpr c24; clear c24; have H' := Aside0.mk H; clear H; have p23 : (0 ≤ (x10_3 : Int)) = True := zT; have q23 : (x10_3 < (t416.size : Int)) = True := zT; have hx23 := bt_at t416 x10_3; go_wp2
           repeat (go_quiet (fail); try go_wp2)
           go_meet
           case rel => exact ⟨_, (x10_3), zs, H', ⟨by have := HK1.out; have := HJ11.out; have := HK3.out; first | omega | exact Nat.le_refl _⟩, ⟨by (with_reducible repeat (first | apply Kd.R_alloc | apply Kd.R_drewN | apply Kd.R_drew)); exact HO_6.out⟩, ⟨by (with_reducible repeat (first | apply Kd.R_alloc | apply Kd.R_drewN | apply Kd.R_drew)); exact HO_7.out⟩, ⟨zb⟩⟩
          ·rw [if_neg c24] at H; have c24b0 : ((bt t416 x10_3) == 10) = false := beq_eq_false_iff_ne.mpr c24; have c24b1 : ((bt t416 x10_3) != 10) = true := bne_iff_ne.mpr c24; have H' := Aside0.mk H; clear H; have p23 : (0 ≤ (x10_3 : Int)) = True := zT; have q23 : (x10_3 < (t416.size : Int)) = True := zT; have hx23 := bt_at t416 x10_3; go_wp2
           repeat (go_quiet (fail); try go_wp2)
           go_roundg k3
           case measure => have := HK1.out; have := HJ11.out; have := HK3.out; omega
           case rel => exact ⟨(wrap64 (x10_3 + 1)), zs, H', ⟨by have := HK1.out; have := HJ11.out; have := HK3.out; omega⟩, ⟨by (with_reducible repeat (first | apply Kd.R_alloc | apply Kd.R_drewN | apply Kd.R_drew)); exact HO_6.out⟩, ⟨by (with_reducible repeat (first | apply Kd.R_alloc | apply Kd.R_drewN | apply Kd.R_drew)); exact HO_7.out⟩, ⟨zb⟩⟩
         ·rw [if_neg c21] at H; have c21b0 := decide_eq_false c21; clear c21
          (first | rw [c21b0] | (simp only [i64_w, i32_w]; rw [c21b0]) | skip)
          have H' := Aside0.mk H; clear H; go_wp2
          repeat (go_quiet (fail); try go_wp2)
          go_meet
          case rel => exact ⟨_, (x10_3), zs, H', ⟨by have := HK1.out; have := HJ11.out; have := HK3.out; first | omega | exact Nat.le_refl _⟩, ⟨by (with_reducible repeat (first | apply Kd.R_alloc | apply Kd.R_drewN | apply Kd.R_drew)); exact HO_6.out⟩, ⟨by (with_reducible repeat (first | apply Kd.R_alloc | apply Kd.R_drewN | apply Kd.R_drew)); exact HO_7.out⟩, ⟨zb⟩⟩
      case rest =>
       clear HC20; obtain ⟨kq, x10_19, rfl, HA, HJ19, HO_6, HO_7, HB⟩ := hcut
       cases kq with
       | zero => exact absurd HA.out (by simp [marginaliaref04_Line.j4])
       | succ kj19 =>
        have H := HA.out; clear HA; simp only [marginaliaref04_Line.j4] at H; have H' := Aside0.mk H; clear H; go_wp2
        repeat (go_quiet (fail); try go_wp2)
        go_loopg [11] kj19 (fun kq v11 w' => ∃ (x7_4 : List Bool) (x11_4 : Int), v11 = .int .i64 x11_4 ∧ Aside0 (marginaliaref04_Line.l3 kq t416 t417 x7_4 x8_1 x10_19 x11_4 = some r) ∧ Aside0 (kq ≤ kj19) ∧ Aside0 (Kd.R k75 75 w' w.heap.size (fun _ => True) (.slice (some ad423) t417.length co13) t417) ∧ Aside0 (Kd.R Kd.bool 4 w' w.heap.size (fun _ => True) v421 x7_4) ∧ Aside0 (Below w.heap.size w w'))
        case atStart => exact ⟨(x7_1), (x9_11), zs, H', ⟨Nat.le_refl _⟩, ⟨by (with_reducible repeat (first | apply Kd.R_alloc | apply Kd.R_drewN | apply Kd.R_drew)); exact HO_6.out⟩, ⟨by (with_reducible repeat (first | apply Kd.R_alloc | apply Kd.R_drewN | apply Kd.R_drew)); exact HO_7.out⟩, ⟨zb⟩⟩
        case round =>
         clear H'; obtain ⟨x7_4, x11_4, rfl, HA, HK4, HO_6, HO_7, HB⟩ := hrel
         cases gk with
         | zero => exact absurd HA.out (by simp [marginaliaref04_Line.l3])
         | succ k4 =>
          have H := HA.out; clear HA; simp only [marginaliaref04_Line.l3] at H; by_cases c25 : x11_4 ≤ x10_19
          ·rw [if_pos c25] at H; have c25b0 := decide_eq_true c25; clear c25; by_cases c26 : x11_4 < (t416.size : Int)
           ·rw [if_pos c26] at H; have c26b0 := decide_eq_true c26; clear c26; replace H := zi1 H; obtain ⟨c27b0, H⟩ := H; replace H := zi1 H; obtain ⟨c28b0, H⟩ := H
            obtain ⟨y425, hy425⟩ : ∃ y_ : List Bool, y_ = (x7_4.set (x11_4 : Int).toNat true) := ⟨_, rfl⟩
            replace H : (marginaliaref04_Line.l3 k4 t416 t417 y425 x8_1 x10_19 (wrap64 (x11_4 + 1))) = some r := by first | (rw [hy425]; with_reducible exact H) | (have H2_ := (Option.bind_some _ _).symm.trans H; rw [hy425]; with_reducible exact H2_) | (have H2_ := (Option.bind_some _ _).symm.trans H; with_reducible exact H2_) | with_reducible exact H | (rw [hy425]; exact H) | exact H
            have Ny425 := Aside0.mk hy425; clear hy425; have H' := Aside0.mk H; clear H; have p29 : 0 ≤ (x11_4 : Int) := zt; have q29 : (x11_4 : Int) < ((x7_4.length : Int) : Int) := zt; obtain ⟨go29, co29, eo29, gb29, gl29, cl29, HG29⟩ := Kd.R_form HO_7.out (by omega)
            (first | cases eo29 | (injection eo29 with ea_ en_ ec_; (first | subst ea_ | (injection ea_ with ea_; subst ea_)); subst ec_; clear en_))
            have GB29 := Aside0.mk gb29; have GG29 := Aside0.mk HG29; clear gb29 gl29 HG29; obtain ⟨hx29_0, hf29_0⟩ := Kd.R_celln false HO_7.out (x11_4 : Int) p29 q29; replace p29 := eq_true p29; replace q29 := eq_true q29; have HP30 := Kd.R_putg HO_7.out (x11_4 : Int) true
            go_wp2_with (first | ((with_reducible refine gate_store (t := 4) (p := 75) rfl ?_); (try (rw [drewN_self wr]; generalize hq_ : World.drewN wr _ = wr; replace HO_6 := Aside0.mk (Kd.R_at hq_ HO_6.out); replace HO_7 := Aside0.mk (Kd.R_at hq_ HO_7.out); replace HB := Aside0.mk (below_at hq_ HB.out); clear hq_; (try (have HP30 := Kd.R_putg HO_7.out (x11_4 : Int) true)))); refine store_event (t := 4) (p := 75) (v := ?vo_w31) (w1 := (wr.setCell ⟨go29, (x11_4 : Int).toNat, none⟩ (.bool true))) ?hg ?ho ?hn ?hr ?_; (case ho => rfl); (case hg => rfl); (case hn => rfl); (case hr => first | (go_simp; done) | (go_simp; rfl)); intro w31 hw; have hg : wr.grownBy w31 (some go29) := (by rw [hw]; exact HP30.2); have hp_ : Kd.R Kd.bool 4 w31 w.heap.size (fun _ => True) (.slice (some ⟨go29, 0, none⟩) x7_4.length co29) y425 := (by rw [hw, Ny425.out]; exact HP30.1); clear HP30; replace HO_6 := Aside0.mk (Kd.R_over' (v := (.slice (some ⟨go29, 0, none⟩) x7_4.length co29)) (zR HO_6) (Kd.R_typed HO_7.out) (by decide) hg); replace HO_7 := Aside0.mk (hp_); replace HB := Aside0.mk ((by rw [hw]; exact below_set (HB.out) GB29.out : Below w.heap.size w w31)); clear hg hw hp_))
            repeat (go_quiet (first | ((with_reducible refine gate_store (t := 4) (p := 75) rfl ?_); (try (rw [drewN_self wr]; generalize hq_ : World.drewN wr _ = wr; replace HO_6 := Aside0.mk (Kd.R_at hq_ HO_6.out); replace HO_7 := Aside0.mk (Kd.R_at hq_ HO_7.out); replace HB := Aside0.mk (below_at hq_ HB.out); clear hq_; (try (have HP30 := Kd.R_putg HO_7.out (x11_4 : Int) true)))); refine store_event (t := 4) (p := 75) (v := ?vo_w31) (w1 := (wr.setCell ⟨go29, (x11_4 : Int).toNat, none⟩ (.bool true))) ?hg ?ho ?hn ?hr ?_; (case ho => rfl); (case hg => rfl); (case hn => rfl); (case hr => first | (go_simp; done) | (go_simp; rfl)); intro w31 hw; have hg : wr.grownBy w31 (some go29) := (by rw [hw]; exact HP30.2); have hp_ : Kd.R Kd.bool 4 w31 w.heap.size (fun _ => True) (.slice (some ⟨go29, 0, none⟩) x7_4.length co29) y425 := (by rw [hw, Ny425.out]; exact HP30.1); clear HP30; replace HO_6 := Aside0.mk (Kd.R_over' (v := (.slice (some ⟨go29, 0, none⟩) x7_4.length co29)) (zR HO_6) (Kd.R_typed HO_7.out) (by decide) hg); replace HO_7 := Aside0.mk (hp_); replace HB := Aside0.mk ((by rw [hw]; exact below_set (HB.out) GB29.out : Below w.heap.size w w31)); clear hg hw hp_)); try go_wp2_with (first | ((with_reducible refine gate_store (t := 4) (p := 75) rfl ?_); (try (rw [drewN_self wr]; generalize hq_ : World.drewN wr _ = wr; replace HO_6 := Aside0.mk (Kd.R_at hq_ HO_6.out); replace HO_7 := Aside0.mk (Kd.R_at hq_ HO_7.out); replace HB := Aside0.mk (below_at hq_ HB.out); clear hq_; (try (have HP30 := Kd.R_putg HO_7.out (x11_4 : Int) true)))); refine store_event (t := 4) (p := 75) (v := ?vo_w31) (w1 := (wr.setCell ⟨go29, (x11_4 : Int).toNat, none⟩ (.bool true))) ?hg ?ho ?hn ?hr ?_; (case ho => rfl); (case hg => rfl); (case hn => rfl); (case hr => first | (go_simp; done) | (go_simp; rfl)); intro w31 hw; have hg : wr.grownBy w31 (some go29) := (by rw [hw]; exact HP30.2); have hp_ : Kd.R Kd.bool 4 w31 w.heap.size (fun _ => True) (.slice (some ⟨go29, 0, none⟩) x7_4.length co29) y425 := (by rw [hw, Ny425.out]; exact HP30.1); clear HP30; replace HO_6 := Aside0.mk (Kd.R_over' (v := (.slice (some ⟨go29, 0, none⟩) x7_4.length co29)) (zR HO_6) (Kd.R_typed HO_7.out) (by decide) hg); replace HO_7 := Aside0.mk (hp_); replace HB := Aside0.mk ((by rw [hw]; exact below_set (HB.out) GB29.out : Below w.heap.size w w31)); clear hg hw hp_)))
            go_roundg k4
            case measure => have := HK1.out; have := HJ11.out; have := HJ19.out; have := HK4.out; omega
            case rel => exact ⟨(y425), (wrap64 (x11_4 + 1)), zs, H', ⟨by have := HK1.out; have := HJ11.out; have := HJ19.out; have := HK4.out; omega⟩, ⟨by (with_reducible repeat (first | apply Kd.R_alloc | apply Kd.R_drewN | apply Kd.R_drew)); exact HO_6.out⟩, ⟨by (with_reducible repeat (first | apply Kd.R_alloc | apply Kd.R_drewN | apply Kd.R_drew)); exact HO_7.out⟩, ⟨zb⟩⟩
           ·rw [if_neg c26] at H; have c26b0 := decide_eq_false c26; clear c26; have H' := Aside0.mk H; clear H; go_wp2
            repeat (go_quiet (fail); try go_wp2)
            go_roundg k4
            case measure => have := HK1.out; have := HJ11.out; have := HJ19.out; have := HK4.out; omega
            case rel => exact ⟨(x7_4), (wrap64 (x8_1 + 1)), zs, H', ⟨by have := HK1.out; have := HJ11.out; have := HJ19.out; have := HK4.out; omega⟩, ⟨by (with_reducible repeat (first | apply Kd.R_alloc | apply Kd.R_drewN | apply Kd.R_drew)); exact HO_6.out⟩, ⟨by (with_reducible repeat (first | apply Kd.R_alloc | apply Kd.R_drewN | apply Kd.R_drew)); exact HO_7.out⟩, ⟨zb⟩⟩
          ·rw [if_neg c25] at H; have c25b0 := decide_eq_false c25; clear c25; have H' := Aside0.mk H; clear H; go_wp2
           repeat (go_quiet (fail); try go_wp2)
           go_roundg k4
           case measure => have := HK1.out; have := HJ11.out; have := HJ19.out; have := HK4.out; omega
           case rel => exact ⟨(x7_4), (wrap64 (x8_1 + 1)), zs, H', ⟨by have := HK1.out; have := HJ11.out; have := HJ19.out; have := HK4.out; omega⟩, ⟨by (with_reducible repeat (first | apply Kd.R_alloc | apply Kd.R_drewN | apply Kd.R_drew)); exact HO_6.out⟩, ⟨by (with_reducible repeat (first | apply Kd.R_alloc | apply Kd.R_drewN | apply Kd.R_drew)); exact HO_7.out⟩, ⟨zb⟩⟩
   ·rw [if_neg c10] at H; have c10b0 := decide_eq_false c10; clear c10; have H' := Aside0.mk H; clear H; obtain ⟨Ao32, co32, eo32⟩ := Kd.R_slice HO_6.out; subst eo32; go_wp2
    repeat (go_quiet (fail); try go_wp2)
    go_loopg [12, 13] k1 (fun kq v12 v13 w' => ∃ (x12_2 : Int) (x13_2 : Int), v12 = .int .i64 x12_2 ∧ v13 = .int .i64 x13_2 ∧ Aside0 (marginaliaref04_Line.l4 kq x7_1 x12_2 x13_2 = some r) ∧ Aside0 (kq ≤ k1) ∧ Aside0 (Kd.R Kd.bool 4 w' w.heap.size (fun _ => True) v421 x7_1) ∧ Aside0 (Below w.heap.size w w'))
    case atStart => exact ⟨(0), (0), zs, zs, H', ⟨Nat.le_refl _⟩, ⟨by (with_reducible repeat (first | apply Kd.R_alloc | apply Kd.R_drewN | apply Kd.R_drew)); exact HO_7.out⟩, ⟨zb⟩⟩
    case round =>
     clear H'; obtain ⟨x12_2, x13_2, rfl, rfl, HA, HK2, HO_7, HB⟩ := hrel
     cases gk with
     | zero => exact absurd HA.out (by simp [marginaliaref04_Line.l4])
     | succ k2 =>
      have H := HA.out; clear HA; simp only [marginaliaref04_Line.l4] at H; by_cases c33 : x13_2 < (x7_1.length : Int)
      ·rw [if_pos c33] at H; have c33b0 := decide_eq_true c33; clear c33; replace H := zi1 H; obtain ⟨c34b0, H⟩ := H
       obtain ⟨bq35, hbq35⟩ : ∃ b_ : Bool, b_ = (rdOf false x7_1 x13_2) := ⟨_, rfl⟩
       replace H : (if bq35 = true then (marginaliaref04_Line.l4 k2 x7_1 (wrap64 (x12_2 + 1)) (wrap64 (x13_2 + 1))) else (marginaliaref04_Line.l4 k2 x7_1 x12_2 (wrap64 (x13_2 + 1)))) = some r := by rw [← hbq35] at H; exact H
       have Nbq35 := Aside0.mk hbq35; clear hbq35; by_cases c36 : bq35 = true
       ·subst c36; rw [if_pos rfl] at H; have H' := Aside0.mk H; clear H; obtain ⟨Ao37, co37, eo37⟩ := Kd.R_slice HO_7.out; subst eo37; have p426 : 0 ≤ (x13_2 : Int) := zt; have q426 : x13_2 < (x7_1.length : Int) := zt; obtain ⟨ad426, e426, hx426_0⟩ := Kd.at_bool (Kd.R_reads' HO_7.out).2.2 x13_2 p426 q426
        (try rw [← Nbq35.out] at hx426_0)
        cases e426
        replace p426 := eq_true p426; replace q426 := eq_true q426; go_wp2
        repeat (go_quiet (fail); try go_wp2)
        go_roundg k2
        case measure => have := HK1.out; have := HK2.out; omega
        case rel => exact ⟨(wrap64 (x12_2 + 1)), (wrap64 (x13_2 + 1)), zs, zs, H', ⟨by have := HK1.out; have := HK2.out; omega⟩, ⟨by (with_reducible repeat (first | apply Kd.R_alloc | apply Kd.R_drewN | apply Kd.R_drew)); exact HO_7.out⟩, ⟨zb⟩⟩
       ·replace c36 := Bool.eq_false_iff.mpr c36; subst c36; replace H := zf H; have H' := Aside0.mk H; clear H; obtain ⟨Ao38, co38, eo38⟩ := Kd.R_slice HO_7.out; subst eo38; have p426 : 0 ≤ (x13_2 : Int) := zt; have q426 : x13_2 < (x7_1.length : Int) := zt; obtain ⟨ad426, e426, hx426_0⟩ := Kd.at_bool (Kd.R_reads' HO_7.out).2.2 x13_2 p426 q426
        (try rw [← Nbq35.out] at hx426_0)
        cases e426
        replace p426 := eq_true p426; replace q426 := eq_true q426; go_wp2
        repeat (go_quiet (fail); try go_wp2)
        go_roundg k2
        case measure => have := HK1.out; have := HK2.out; omega
        case rel => exact ⟨(x12_2), (wrap64 (x13_2 + 1)), zs, zs, H', ⟨by have := HK1.out; have := HK2.out; omega⟩, ⟨by (with_reducible repeat (first | apply Kd.R_alloc | apply Kd.R_drewN | apply Kd.R_drew)); exact HO_7.out⟩, ⟨zb⟩⟩
      ·rw [if_neg c33] at H; have c33b0 := decide_eq_false c33; clear c33; obtain rfl := Option.some.inj H; obtain ⟨Ao39, co39, eo39⟩ := Kd.R_slice HO_7.out; subst eo39; go_wp2
       repeat (go_quiet (fail); try go_wp2)
       go_ret; exact ⟨zr, zb⟩

end Go.Proofs.Ytahcpappailjgaa.P

namespace Go.Proofs.Ytahcpappailjgaa.P
open Go.RowKit Go.Proofs.YtahcpappailjgaaW.PrintWords Go.Proofs.YtahcpappailjgaaW.PrintLast Go.Proofs.YtahcpappailjgaaW.PrintMore
attribute [local go_sem] max2_int min2_int max_two min_two max_three min_three max_four min_four
set_option linter.unusedVariables false
set_option linter.unusedSimpArgs false

/-! ### marginalialaw04_RelexLines: function 5 -/
def marginalialaw04_RelexLines.f (k : Nat) (l0 : List (S59)) (l1 : List (S39)) : Option (Bool) := (marginaliaref03_Cut.f k l0).bind fun t427 => ((marginaliaref01_Cut.f k l1 2000).bind fun t430 => ((relex_Line.f k t427 t430).bind fun bt433 => ((marginaliaref04_Check.f k t427 t430).bind fun t435 => (if t435 = 0 then ((marginaliaref03_Text.f k t427).bind fun t436 => ((marginaliaref04_Line.f k t436 t430).bind fun t437 => (if bt433.1 = t437 then (if bt433.2 = 0 then ((marginalialaw04_alive.f k).bind fun t438 => (some t438)) else (some false)) else (some false)))) else (if bt433.1 = 0 then (if bt433.2 = t435 then ((marginalialaw04_alive.f k).bind fun t439 => (some t439)) else (some false)) else (some false))))))
set_option maxHeartbeats 8000000 in
set_option maxRecDepth 100000 in
theorem marginalialaw04_RelexLines.calls (k : Nat) (A0 : Option Addr) (c0 : Nat) (l0 : List (S59)) (A1 : Option Addr) (c1 : Nat) (l1 : List (S39)) (r : Bool) (w : World) (hr0 : Kd.C k59 w A0 l0.length l0) (hc0 : l0.length ≤ c0) (hr1 : Kd.C k39 w A1 l1.length l1) (hc1 : l1.length ≤ c1) (h : marginalialaw04_RelexLines.f k l0 l1 = some r) :
  Calls Try.prog 5 #[.slice A0 l0.length c0, .slice A1 l1.length c1] w fun e w' => e = .returned (.bool r) ∧ Below w.heap.size w w' := by
 have HR0 := Aside0.mk hr0; have HC0 := Aside0.mk hc0; clear hr0 hc0; have HR1 := Aside0.mk hr1; have HC1 := Aside0.mk hc1; clear hr1 hc1; have HB := Aside0.mk (Below.refl w.heap.size w); have H : ((marginaliaref03_Cut.f k l0).bind fun t427 => ((marginaliaref01_Cut.f k l1 2000).bind fun t430 => ((relex_Line.f k t427 t430).bind fun bt433 => ((marginaliaref04_Check.f k t427 t430).bind fun t435 => (if t435 = 0 then ((marginaliaref03_Text.f k t427).bind fun t436 => ((marginaliaref04_Line.f k t436 t430).bind fun t437 => (if bt433.1 = t437 then (if bt433.2 = 0 then ((marginalialaw04_alive.f k).bind fun t438 => (some t438)) else (some false)) else (some false)))) else (if bt433.1 = 0 then (if bt433.2 = t435 then ((marginalialaw04_alive.f k).bind fun t439 => (some t439)) else (some false)) else (some false))))))) = some r := h; clear h; replace H := zo H; obtain ⟨t427, A3, H⟩ := H; replace H := zo H; obtain ⟨t430, A4, H⟩ := H; replace H := Option.bind_eq_some_iff.mp H; obtain ⟨⟨t433, t434⟩, A50, H⟩ := H; replace H : ((marginaliaref04_Check.f k t427 t430).bind fun t435 => (if t435 = 0 then ((marginaliaref03_Text.f k t427).bind fun t436 => ((marginaliaref04_Line.f k t436 t430).bind fun t437 => (if t433 = t437 then (if t434 = 0 then ((marginalialaw04_alive.f k).bind fun t438 => (some t438)) else (some false)) else (some false)))) else (if t433 = 0 then (if t434 = t435 then ((marginalialaw04_alive.f k).bind fun t439 => (some t439)) else (some false)) else (some false)))) = some r := H; have A5 := Aside0.mk A50; clear A50; replace H := zo H; obtain ⟨t435, A6, H⟩ := H; by_cases c7 : t435 = 0
 ·rw [if_pos c7] at H; have c7b0 : (t435 == 0) = true := beq_iff_eq.mpr c7; have c7b1 : (t435 != 0) = false := bne_eq_false_iff_eq.mpr c7; clear c7; replace H := zo H; obtain ⟨t436, A8, H⟩ := H; replace H := zo H; obtain ⟨t437, A9, H⟩ := H; by_cases c10 : t433 = t437
  ·rw [if_pos c10] at H; have c10b0 : (t433 == t437) = true := beq_iff_eq.mpr c10; have c10b1 : (t433 != t437) = false := bne_eq_false_iff_eq.mpr c10; clear c10; by_cases c11 : t434 = 0
   ·rw [if_pos c11] at H; have c11b0 : (t434 == 0) = true := beq_iff_eq.mpr c11; have c11b1 : (t434 != 0) = false := bne_eq_false_iff_eq.mpr c11; clear c11; replace H := zo H; obtain ⟨t438, A12, H⟩ := H; obtain rfl := Option.some.inj H; go_enter Try.func5, Try.ntmps5
    go_wp2_with (first | ((with_reducible refine zG 10 rfl ?_); refine zg 11 Try.func10 ((marginaliaref03_Cut.calls k _ _ l0 t427 _ ?side1 ?side2 A3.out).mono ?_); (case side1 => exact zE HR0); (case side2 => exact HC0.out); rintro e w13 ⟨v428, rfl, ho0, hb⟩; refine ⟨_, rfl, ?_⟩; have HO429 := Aside0.mk (Kd.R_lower ho0 (below_size zb)); replace HB := (zB hb); (try clear hb); (try clear hb2); (try clear hk); (try clear hi); (try clear ho0)) | ((with_reducible refine zG 11 rfl ?_); refine zg 13 Try.func11 ((marginaliaref01_Cut.calls k _ _ l1 2000 t430 _ ?side1 ?side2 A4.out).mono ?_); (case side1 => exact zC HR1); (case side2 => exact HC1.out); rintro e w14 ⟨v431, rfl, ho0, hb⟩; refine ⟨_, rfl, ?_⟩; replace HO429 := (zRb HO429 hb); have HO432 := Aside0.mk (Kd.R_lower ho0 (below_size zb)); replace HB := (zB hb); (try clear hb); (try clear hb2); (try clear hk); (try clear hi); (try clear ho0); obtain ⟨Ao15, co15, eo15⟩ := Kd.R_slice HO429.out; subst eo15; obtain ⟨Ao16, co16, eo16⟩ := Kd.R_slice HO432.out; subst eo16) | ((with_reducible refine zG 23 rfl ?_); refine zg 17 Try.func23 ((relex_Line.calls k _ _ t427 _ _ t430 t433 t434 _ ?side1 ?side2 ?side3 ?side4 A5.out).mono ?_); (case side1 => exact zE' (Kd.R_reads' HO429.out).2.2); (case side2 => exact (Kd.R_reads' HO429.out).2.1); (case side3 => exact zE' (Kd.R_reads' HO432.out).2.2); (case side4 => exact (Kd.R_reads' HO432.out).2.1); rintro e w17 ⟨rfl, hb⟩; refine ⟨_, rfl, ?_⟩; replace HO429 := (zRb HO429 hb); replace HO432 := (zRb HO432 hb); replace HB := (zB hb); (try clear hb); (try clear hb2); (try clear hk); (try clear hi)) | ((with_reducible refine zG 13 rfl ?_); refine zg 22 Try.func13 ((marginaliaref04_Check.calls k _ _ t427 _ _ t430 t435 _ ?side1 ?side2 ?side3 ?side4 A6.out).mono ?_); (case side1 => exact zE' (Kd.R_reads' HO429.out).2.2); (case side2 => exact (Kd.R_reads' HO429.out).2.1); (case side3 => exact zE' (Kd.R_reads' HO432.out).2.2); (case side4 => exact (Kd.R_reads' HO432.out).2.1); rintro e w18 ⟨rfl, hb⟩; refine ⟨_, rfl, ?_⟩; replace HO429 := (zRb HO429 hb); replace HO432 := (zRb HO432 hb); replace HB := (zB hb); (try clear hb); (try clear hb2); (try clear hk); (try clear hi)) | ((with_reducible refine zG 17 rfl ?_); refine zg 37 Try.func17 ((marginaliaref03_Text.calls k _ _ t427 t436 _ ?side1 ?side2 A8.out).mono ?_); (case side1 => exact zE' (Kd.R_reads' HO429.out).2.2); (case side2 => exact (Kd.R_reads' HO429.out).2.1); rintro e w19 ⟨rfl, hb⟩; refine ⟨_, rfl, ?_⟩; replace HO429 := (zRb HO429 hb); replace HO432 := (zRb HO432 hb); replace HB := (zB hb); (try clear hb); (try clear hb2); (try clear hk); (try clear hi)) | ((with_reducible refine zG 24 rfl ?_); refine zg 39 Try.func24 ((marginaliaref04_Line.calls k t436 _ _ t430 t437 _ ?side1 ?side2 A9.out).mono ?_); (case side1 => exact zE' (Kd.R_reads' HO432.out).2.2); (case side2 => exact (Kd.R_reads' HO432.out).2.1); rintro e w20 ⟨rfl, hb⟩; refine ⟨_, rfl, ?_⟩; replace HO429 := (zRb HO429 hb); replace HO432 := (zRb HO432 hb); replace HB := (zB hb); (try clear hb); (try clear hb2); (try clear hk); (try clear hi)) | (go_at_call 14; (with_reducible refine (marginalialaw04_alive.calls k  t438 _ A12.out).mono ?_); rintro e w21 ⟨rfl, hb⟩; replace HO429 := (zRb HO429 hb); replace HO432 := (zRb HO432 hb); replace HB := (zB hb); (try clear hb); (try clear hb2); (try clear hk); (try clear hi)))
    go_ret; exact ⟨zr, zb⟩
   ·rw [if_neg c11] at H; have c11b0 : (t434 == 0) = false := beq_eq_false_iff_ne.mpr c11; have c11b1 : (t434 != 0) = true := bne_iff_ne.mpr c11; obtain rfl := Option.some.inj H; go_enter Try.func5, Try.ntmps5
    go_wp2_with (first | ((with_reducible refine zG 10 rfl ?_); refine zg 11 Try.func10 ((marginaliaref03_Cut.calls k _ _ l0 t427 _ ?side1 ?side2 A3.out).mono ?_); (case side1 => exact zE HR0); (case side2 => exact HC0.out); rintro e w22 ⟨v428, rfl, ho0, hb⟩; refine ⟨_, rfl, ?_⟩; have HO429 := Aside0.mk (Kd.R_lower ho0 (below_size zb)); replace HB := (zB hb); (try clear hb); (try clear hb2); (try clear hk); (try clear hi); (try clear ho0)) | ((with_reducible refine zG 11 rfl ?_); refine zg 13 Try.func11 ((marginaliaref01_Cut.calls k _ _ l1 2000 t430 _ ?side1 ?side2 A4.out).mono ?_); (case side1 => exact zC HR1); (case side2 => exact HC1.out); rintro e w23 ⟨v431, rfl, ho0, hb⟩; refine ⟨_, rfl, ?_⟩; replace HO429 := (zRb HO429 hb); have HO432 := Aside0.mk (Kd.R_lower ho0 (below_size zb)); replace HB := (zB hb); (try clear hb); (try clear hb2); (try clear hk); (try clear hi); (try clear ho0); obtain ⟨Ao24, co24, eo24⟩ := Kd.R_slice HO429.out; subst eo24; obtain ⟨Ao25, co25, eo25⟩ := Kd.R_slice HO432.out; subst eo25) | ((with_reducible refine zG 23 rfl ?_); refine zg 17 Try.func23 ((relex_Line.calls k _ _ t427 _ _ t430 t433 t434 _ ?side1 ?side2 ?side3 ?side4 A5.out).mono ?_); (case side1 => exact zE' (Kd.R_reads' HO429.out).2.2); (case side2 => exact (Kd.R_reads' HO429.out).2.1); (case side3 => exact zE' (Kd.R_reads' HO432.out).2.2); (case side4 => exact (Kd.R_reads' HO432.out).2.1); rintro e w26 ⟨rfl, hb⟩; refine ⟨_, rfl, ?_⟩; replace HO429 := (zRb HO429 hb); replace HO432 := (zRb HO432 hb); replace HB := (zB hb); (try clear hb); (try clear hb2); (try clear hk); (try clear hi)) | ((with_reducible refine zG 13 rfl ?_); refine zg 22 Try.func13 ((marginaliaref04_Check.calls k _ _ t427 _ _ t430 t435 _ ?side1 ?side2 ?side3 ?side4 A6.out).mono ?_); (case side1 => exact zE' (Kd.R_reads' HO429.out).2.2); (case side2 => exact (Kd.R_reads' HO429.out).2.1); (case side3 => exact zE' (Kd.R_reads' HO432.out).2.2); (case side4 => exact (Kd.R_reads' HO432.out).2.1); rintro e w27 ⟨rfl, hb⟩; refine ⟨_, rfl, ?_⟩; replace HO429 := (zRb HO429 hb); replace HO432 := (zRb HO432 hb); replace HB := (zB hb); (try clear hb); (try clear hb2); (try clear hk); (try clear hi)) | ((with_reducible refine zG 17 rfl ?_); refine zg 37 Try.func17 ((marginaliaref03_Text.calls k _ _ t427 t436 _ ?side1 ?side2 A8.out).mono ?_); (case side1 => exact zE' (Kd.R_reads' HO429.out).2.2); (case side2 => exact (Kd.R_reads' HO429.out).2.1); rintro e w28 ⟨rfl, hb⟩; refine ⟨_, rfl, ?_⟩; replace HO429 := (zRb HO429 hb); replace HO432 := (zRb HO432 hb); replace HB := (zB hb); (try clear hb); (try clear hb2); (try clear hk); (try clear hi)) | ((with_reducible refine zG 24 rfl ?_); refine zg 39 Try.func24 ((marginaliaref04_Line.calls k t436 _ _ t430 t437 _ ?side1 ?side2 A9.out).mono ?_); (case side1 => exact zE' (Kd.R_reads' HO432.out).2.2); (case side2 => exact (Kd.R_reads' HO432.out).2.1); rintro e w29 ⟨rfl, hb⟩; refine ⟨_, rfl, ?_⟩; replace HO429 := (zRb HO429 hb); replace HO432 := (zRb HO432 hb); replace HB := (zB hb); (try clear hb); (try clear hb2); (try clear hk); (try clear hi)))
    go_ret; exact ⟨zr, zb⟩
  ·rw [if_neg c10] at H; have c10b0 : (t433 == t437) = false := beq_eq_false_iff_ne.mpr c10; have c10b1 : (t433 != t437) = true := bne_iff_ne.mpr c10; obtain rfl := Option.some.inj H; go_enter Try.func5, Try.ntmps5
   go_wp2_with (first | ((with_reducible refine zG 10 rfl ?_); refine zg 11 Try.func10 ((marginaliaref03_Cut.calls k _ _ l0 t427 _ ?side1 ?side2 A3.out).mono ?_); (case side1 => exact zE HR0); (case side2 => exact HC0.out); rintro e w30 ⟨v428, rfl, ho0, hb⟩; refine ⟨_, rfl, ?_⟩; have HO429 := Aside0.mk (Kd.R_lower ho0 (below_size zb)); replace HB := (zB hb); (try clear hb); (try clear hb2); (try clear hk); (try clear hi); (try clear ho0)) | ((with_reducible refine zG 11 rfl ?_); refine zg 13 Try.func11 ((marginaliaref01_Cut.calls k _ _ l1 2000 t430 _ ?side1 ?side2 A4.out).mono ?_); (case side1 => exact zC HR1); (case side2 => exact HC1.out); rintro e w31 ⟨v431, rfl, ho0, hb⟩; refine ⟨_, rfl, ?_⟩; replace HO429 := (zRb HO429 hb); have HO432 := Aside0.mk (Kd.R_lower ho0 (below_size zb)); replace HB := (zB hb); (try clear hb); (try clear hb2); (try clear hk); (try clear hi); (try clear ho0); obtain ⟨Ao32, co32, eo32⟩ := Kd.R_slice HO429.out; subst eo32; obtain ⟨Ao33, co33, eo33⟩ := Kd.R_slice HO432.out; subst eo33) | ((with_reducible refine zG 23 rfl ?_); refine zg 17 Try.func23 ((relex_Line.calls k _ _ t427 _ _ t430 t433 t434 _ ?side1 ?side2 ?side3 ?side4 A5.out).mono ?_); (case side1 => exact zE' (Kd.R_reads' HO429.out).2.2); (case side2 => exact (Kd.R_reads' HO429.out).2.1); (case side3 => exact zE' (Kd.R_reads' HO432.out).2.2); (case side4 => exact (Kd.R_reads' HO432.out).2.1); rintro e w34 ⟨rfl, hb⟩; refine ⟨_, rfl, ?_⟩; replace HO429 := (zRb HO429 hb); replace HO432 := (zRb HO432 hb); replace HB := (zB hb); (try clear hb); (try clear hb2); (try clear hk); (try clear hi)) | ((with_reducible refine zG 13 rfl ?_); refine zg 22 Try.func13 ((marginaliaref04_Check.calls k _ _ t427 _ _ t430 t435 _ ?side1 ?side2 ?side3 ?side4 A6.out).mono ?_); (case side1 => exact zE' (Kd.R_reads' HO429.out).2.2); (case side2 => exact (Kd.R_reads' HO429.out).2.1); (case side3 => exact zE' (Kd.R_reads' HO432.out).2.2); (case side4 => exact (Kd.R_reads' HO432.out).2.1); rintro e w35 ⟨rfl, hb⟩; refine ⟨_, rfl, ?_⟩; replace HO429 := (zRb HO429 hb); replace HO432 := (zRb HO432 hb); replace HB := (zB hb); (try clear hb); (try clear hb2); (try clear hk); (try clear hi)) | ((with_reducible refine zG 17 rfl ?_); refine zg 37 Try.func17 ((marginaliaref03_Text.calls k _ _ t427 t436 _ ?side1 ?side2 A8.out).mono ?_); (case side1 => exact zE' (Kd.R_reads' HO429.out).2.2); (case side2 => exact (Kd.R_reads' HO429.out).2.1); rintro e w36 ⟨rfl, hb⟩; refine ⟨_, rfl, ?_⟩; replace HO429 := (zRb HO429 hb); replace HO432 := (zRb HO432 hb); replace HB := (zB hb); (try clear hb); (try clear hb2); (try clear hk); (try clear hi)) | ((with_reducible refine zG 24 rfl ?_); refine zg 39 Try.func24 ((marginaliaref04_Line.calls k t436 _ _ t430 t437 _ ?side1 ?side2 A9.out).mono ?_); (case side1 => exact zE' (Kd.R_reads' HO432.out).2.2); (case side2 => exact (Kd.R_reads' HO432.out).2.1); rintro e w37 ⟨rfl, hb⟩; refine ⟨_, rfl, ?_⟩; replace HO429 := (zRb HO429 hb); replace HO432 := (zRb HO432 hb); replace HB := (zB hb); (try clear hb); (try clear hb2); (try clear hk); (try clear hi)))
   go_ret; exact ⟨zr, zb⟩
 ·rw [if_neg c7] at H; have c7b0 : (t435 == 0) = false := beq_eq_false_iff_ne.mpr c7; have c7b1 : (t435 != 0) = true := bne_iff_ne.mpr c7; by_cases c38 : t433 = 0
  ·rw [if_pos c38] at H; have c38b0 : (t433 == 0) = true := beq_iff_eq.mpr c38; have c38b1 : (t433 != 0) = false := bne_eq_false_iff_eq.mpr c38; clear c38; by_cases c39 : t434 = t435
   ·rw [if_pos c39] at H; have c39b0 : (t434 == t435) = true := beq_iff_eq.mpr c39; have c39b1 : (t434 != t435) = false := bne_eq_false_iff_eq.mpr c39; clear c39; replace H := zo H; obtain ⟨t439, A40, H⟩ := H; obtain rfl := Option.some.inj H; go_enter Try.func5, Try.ntmps5
    go_wp2_with (first | ((with_reducible refine zG 10 rfl ?_); refine zg 11 Try.func10 ((marginaliaref03_Cut.calls k _ _ l0 t427 _ ?side1 ?side2 A3.out).mono ?_); (case side1 => exact zE HR0); (case side2 => exact HC0.out); rintro e w41 ⟨v428, rfl, ho0, hb⟩; refine ⟨_, rfl, ?_⟩; have HO429 := Aside0.mk (Kd.R_lower ho0 (below_size zb)); replace HB := (zB hb); (try clear hb); (try clear hb2); (try clear hk); (try clear hi); (try clear ho0)) | ((with_reducible refine zG 11 rfl ?_); refine zg 13 Try.func11 ((marginaliaref01_Cut.calls k _ _ l1 2000 t430 _ ?side1 ?side2 A4.out).mono ?_); (case side1 => exact zC HR1); (case side2 => exact HC1.out); rintro e w42 ⟨v431, rfl, ho0, hb⟩; refine ⟨_, rfl, ?_⟩; replace HO429 := (zRb HO429 hb); have HO432 := Aside0.mk (Kd.R_lower ho0 (below_size zb)); replace HB := (zB hb); (try clear hb); (try clear hb2); (try clear hk); (try clear hi); (try clear ho0); obtain ⟨Ao43, co43, eo43⟩ := Kd.R_slice HO429.out; subst eo43; obtain ⟨Ao44, co44, eo44⟩ := Kd.R_slice HO432.out; subst eo44) | ((with_reducible refine zG 23 rfl ?_); refine zg 17 Try.func23 ((relex_Line.calls k _ _ t427 _ _ t430 t433 t434 _ ?side1 ?side2 ?side3 ?side4 A5.out).mono ?_); (case side1 => exact zE' (Kd.R_reads' HO429.out).2.2); (case side2 => exact (Kd.R_reads' HO429.out).2.1); (case side3 => exact zE' (Kd.R_reads' HO432.out).2.2); (case side4 => exact (Kd.R_reads' HO432.out).2.1); rintro e w45 ⟨rfl, hb⟩; refine ⟨_, rfl, ?_⟩; replace HO429 := (zRb HO429 hb); replace HO432 := (zRb HO432 hb); replace HB := (zB hb); (try clear hb); (try clear hb2); (try clear hk); (try clear hi)) | ((with_reducible refine zG 13 rfl ?_); refine zg 22 Try.func13 ((marginaliaref04_Check.calls k _ _ t427 _ _ t430 t435 _ ?side1 ?side2 ?side3 ?side4 A6.out).mono ?_); (case side1 => exact zE' (Kd.R_reads' HO429.out).2.2); (case side2 => exact (Kd.R_reads' HO429.out).2.1); (case side3 => exact zE' (Kd.R_reads' HO432.out).2.2); (case side4 => exact (Kd.R_reads' HO432.out).2.1); rintro e w46 ⟨rfl, hb⟩; refine ⟨_, rfl, ?_⟩; replace HO429 := (zRb HO429 hb); replace HO432 := (zRb HO432 hb); replace HB := (zB hb); (try clear hb); (try clear hb2); (try clear hk); (try clear hi)) | (go_at_call 14; (with_reducible refine (marginalialaw04_alive.calls k  t439 _ A40.out).mono ?_); rintro e w47 ⟨rfl, hb⟩; replace HO429 := (zRb HO429 hb); replace HO432 := (zRb HO432 hb); replace HB := (zB hb); (try clear hb); (try clear hb2); (try clear hk); (try clear hi)))
    go_ret; exact ⟨zr, zb⟩
   ·rw [if_neg c39] at H; have c39b0 : (t434 == t435) = false := beq_eq_false_iff_ne.mpr c39; have c39b1 : (t434 != t435) = true := bne_iff_ne.mpr c39; obtain rfl := Option.some.inj H; go_enter Try.func5, Try.ntmps5
    go_wp2_with (first | ((with_reducible refine zG 10 rfl ?_); refine zg 11 Try.func10 ((marginaliaref03_Cut.calls k _ _ l0 t427 _ ?side1 ?side2 A3.out).mono ?_); (case side1 => exact zE HR0); (case side2 => exact HC0.out); rintro e w48 ⟨v428, rfl, ho0, hb⟩; refine ⟨_, rfl, ?_⟩; have HO429 := Aside0.mk (Kd.R_lower ho0 (below_size zb)); replace HB := (zB hb); (try clear hb); (try clear hb2); (try clear hk); (try clear hi); (try clear ho0)) | ((with_reducible refine zG 11 rfl ?_); refine zg 13 Try.func11 ((marginaliaref01_Cut.calls k _ _ l1 2000 t430 _ ?side1 ?side2 A4.out).mono ?_); (case side1 => exact zC HR1); (case side2 => exact HC1.out); rintro e w49 ⟨v431, rfl, ho0, hb⟩; refine ⟨_, rfl, ?_⟩; replace HO429 := (zRb HO429 hb); have HO432 := Aside0.mk (Kd.R_lower ho0 (below_size zb)); replace HB := (zB hb); (try clear hb); (try clear hb2); (try clear hk); (try clear hi); (try clear ho0); obtain ⟨Ao50, co50, eo50⟩ := Kd.R_slice HO429.out; subst eo50; obtain ⟨Ao51, co51, eo51⟩ := Kd.R_slice HO432.out; subst eo51) | ((with_reducible refine zG 23 rfl ?_); refine zg 17 Try.func23 ((relex_Line.calls k _ _ t427 _ _ t430 t433 t434 _ ?side1 ?side2 ?side3 ?side4 A5.out).mono ?_); (case side1 => exact zE' (Kd.R_reads' HO429.out).2.2); (case side2 => exact (Kd.R_reads' HO429.out).2.1); (case side3 => exact zE' (Kd.R_reads' HO432.out).2.2); (case side4 => exact (Kd.R_reads' HO432.out).2.1); rintro e w52 ⟨rfl, hb⟩; refine ⟨_, rfl, ?_⟩; replace HO429 := (zRb HO429 hb); replace HO432 := (zRb HO432 hb); replace HB := (zB hb); (try clear hb); (try clear hb2); (try clear hk); (try clear hi)) | ((with_reducible refine zG 13 rfl ?_); refine zg 22 Try.func13 ((marginaliaref04_Check.calls k _ _ t427 _ _ t430 t435 _ ?side1 ?side2 ?side3 ?side4 A6.out).mono ?_); (case side1 => exact zE' (Kd.R_reads' HO429.out).2.2); (case side2 => exact (Kd.R_reads' HO429.out).2.1); (case side3 => exact zE' (Kd.R_reads' HO432.out).2.2); (case side4 => exact (Kd.R_reads' HO432.out).2.1); rintro e w53 ⟨rfl, hb⟩; refine ⟨_, rfl, ?_⟩; replace HO429 := (zRb HO429 hb); replace HO432 := (zRb HO432 hb); replace HB := (zB hb); (try clear hb); (try clear hb2); (try clear hk); (try clear hi)))
    go_ret; exact ⟨zr, zb⟩
  ·rw [if_neg c38] at H; have c38b0 : (t433 == 0) = false := beq_eq_false_iff_ne.mpr c38; have c38b1 : (t433 != 0) = true := bne_iff_ne.mpr c38; obtain rfl := Option.some.inj H; go_enter Try.func5, Try.ntmps5
   go_wp2_with (first | ((with_reducible refine zG 10 rfl ?_); refine zg 11 Try.func10 ((marginaliaref03_Cut.calls k _ _ l0 t427 _ ?side1 ?side2 A3.out).mono ?_); (case side1 => exact zE HR0); (case side2 => exact HC0.out); rintro e w54 ⟨v428, rfl, ho0, hb⟩; refine ⟨_, rfl, ?_⟩; have HO429 := Aside0.mk (Kd.R_lower ho0 (below_size zb)); replace HB := (zB hb); (try clear hb); (try clear hb2); (try clear hk); (try clear hi); (try clear ho0)) | ((with_reducible refine zG 11 rfl ?_); refine zg 13 Try.func11 ((marginaliaref01_Cut.calls k _ _ l1 2000 t430 _ ?side1 ?side2 A4.out).mono ?_); (case side1 => exact zC HR1); (case side2 => exact HC1.out); rintro e w55 ⟨v431, rfl, ho0, hb⟩; refine ⟨_, rfl, ?_⟩; replace HO429 := (zRb HO429 hb); have HO432 := Aside0.mk (Kd.R_lower ho0 (below_size zb)); replace HB := (zB hb); (try clear hb); (try clear hb2); (try clear hk); (try clear hi); (try clear ho0); obtain ⟨Ao56, co56, eo56⟩ := Kd.R_slice HO429.out; subst eo56; obtain ⟨Ao57, co57, eo57⟩ := Kd.R_slice HO432.out; subst eo57) | ((with_reducible refine zG 23 rfl ?_); refine zg 17 Try.func23 ((relex_Line.calls k _ _ t427 _ _ t430 t433 t434 _ ?side1 ?side2 ?side3 ?side4 A5.out).mono ?_); (case side1 => exact zE' (Kd.R_reads' HO429.out).2.2); (case side2 => exact (Kd.R_reads' HO429.out).2.1); (case side3 => exact zE' (Kd.R_reads' HO432.out).2.2); (case side4 => exact (Kd.R_reads' HO432.out).2.1); rintro e w58 ⟨rfl, hb⟩; refine ⟨_, rfl, ?_⟩; replace HO429 := (zRb HO429 hb); replace HO432 := (zRb HO432 hb); replace HB := (zB hb); (try clear hb); (try clear hb2); (try clear hk); (try clear hi)) | ((with_reducible refine zG 13 rfl ?_); refine zg 22 Try.func13 ((marginaliaref04_Check.calls k _ _ t427 _ _ t430 t435 _ ?side1 ?side2 ?side3 ?side4 A6.out).mono ?_); (case side1 => exact zE' (Kd.R_reads' HO429.out).2.2); (case side2 => exact (Kd.R_reads' HO429.out).2.1); (case side3 => exact zE' (Kd.R_reads' HO432.out).2.2); (case side4 => exact (Kd.R_reads' HO432.out).2.1); rintro e w59 ⟨rfl, hb⟩; refine ⟨_, rfl, ?_⟩; replace HO429 := (zRb HO429 hb); replace HO432 := (zRb HO432 hb); replace HB := (zB hb); (try clear hb); (try clear hb2); (try clear hk); (try clear hi)))
   go_ret; exact ⟨zr, zb⟩

end Go.Proofs.Ytahcpappailjgaa.P

set_option linter.unusedVariables false
set_option linter.unusedSimpArgs false
namespace Go.Proofs.Ytahcpappailjgaa.P
open Go.RowKit Go.Proofs.YtahcpappailjgaaW.PrintWords Go.Proofs.YtahcpappailjgaaW.PrintLast Go.Proofs.YtahcpappailjgaaW.PrintMore
/-! ### rounds -/
theorem Ev.shift {α : Type} {g : Nat → Option α} {r : α} (h : Ev (fun k => g (k + 1)) r) : Ev g r := Ev.step (fun _ => rfl) h
theorem Ev.pos {α : Type} {c : Prop} [Decidable c] {f g : Nat → Option α} {r : α} (h : c) (k : Ev f r) : Ev (fun n => if c then f n else g n) r := by
 simp only [if_pos h]; exact k
theorem Ev.neg {α : Type} {c : Prop} [Decidable c] {f g : Nat → Option α} {r : α} (h : ¬ c) (k : Ev g r) : Ev (fun n => if c then f n else g n) r := by
 simp only [if_neg h]; exact k
theorem Ev.bind1 {α β : Type} {o : Option α} {f : Nat → α → Option β} {a : α} {r : β} (h : o = some a) (k : Ev (fun n => f n a) r) : Ev (fun n => o.bind (f n)) r := by
 rw [h]; exact k
theorem w64 {n : Int} (h : -9223372036854775808 ≤ n) (h' : n ≤ 9223372036854775807) : wrap64 n = n := by unfold wrap64; omega
abbrev Ed := S39
theorem rd_at {l : List Ed} {i : Nat} {e : Ed} {r : List Ed} (h : l.drop i = e :: r) : rd_T39 l (i : Int) = e := by
 have h1 : l[i]? = some e := by
  have := congrArg (fun x : List Ed => x[0]?) h
  simpa [List.getElem?_drop] using this
 simp [rd_T39, List.getD_eq_getElem?_getD, h1]
theorem lt_of_drop {α : Type} {l : List α} {i : Nat} {e : α} {r : List α} (h : l.drop i = e :: r) : i < l.length := by
 have := congrArg List.length h
 simp at this
 omega
theorem drop_next {α : Type} {l : List α} {i : Nat} {e : α} {r : List α} (h : l.drop i = e :: r) : l.drop (i + 1) = r := by
 have := congrArg (List.drop 1) h
 simpa [List.drop_drop, Nat.add_comm] using this
theorem le_of_nil {α : Type} {l : List α} {i : Nat} (h : l.drop i = []) : l.length ≤ i := by
 have := congrArg List.length h
 simp at this
 omega

/-! ### Short, Cut -/
theorem mn_nat (a b : Nat) : mn (a : Int) (b : Int) = ((min a b : Nat) : Int) := by unfold mn; (repeat' split) <;> omega
theorem mx_nat (a b : Nat) : mx (a : Int) (b : Int) = ((max a b : Nat) : Int) := by unfold mx; (repeat' split) <;> omega
/-- An edit whose numbers are ints. -/
def Ok (e : Ed) : Prop := (-9223372036854775808 ≤ e.f0 ∧ e.f0 ≤ 9223372036854775807) ∧ (-9223372036854775808 ≤ e.f1 ∧ e.f1 ≤ 9223372036854775807)
def cutE (n : Nat) (e : Ed) : Ed := ⟨e.f0, e.f1, e.f2.extract 0 (min e.f2.size n)⟩
def cut (n : Nat) (l : List Ed) : List Ed := (l.take 102).map (cutE n)
theorem Cut_loop (l : List Ed) (n : Nat) (hl : l.length ≤ 9223372036854775807) : ∀ (d i : Nat) (acc : List Ed), 102 - i = d → i ≤ 102 → acc.length ≤ 102 → acc.length = i →
  Ev (fun k => marginaliaref01_Cut.l0 k l (n : Int) acc (i : Int)) (acc ++ ((l.drop i).take (102 - i)).map (cutE n)) := by
 intro d
 induction d with
 | zero =>
  intro i acc hd hi ha hai; refine Ev.shift ?_; simp only [marginaliaref01_Cut.l0]; rw [show 102 - i = 0 by omega]; by_cases hlt : (i : Int) < (l.length : Int)
  ·refine Ev.pos hlt (Ev.neg (by omega) ?_)
   simpa using Ev.now acc
  ·refine Ev.neg hlt ?_
   simpa using Ev.now acc
 | succ d ih =>
  intro i acc hd hi ha hai; refine Ev.shift ?_; simp only [marginaliaref01_Cut.l0]
  cases hdr : l.drop i with
  | nil =>
   have := le_of_nil hdr; refine Ev.neg (by omega) ?_
   simpa using Ev.now acc
  | cons e r =>
   have hlt := lt_of_drop hdr; rw [rd_at hdr, mn_nat]; refine Ev.pos (by omega) (Ev.pos (by omega) (Ev.pos (by omega) (Ev.pos (by omega) (Ev.pos (by omega) (Ev.pos (by omega) ?_))))); rw [w64 (by omega) (by omega)]; have h := ih (i + 1) (acc ++ [cutE n e]) (by omega) (by omega) (by simp; omega) (by simp; omega); rw [drop_next hdr] at h; rw [show 102 - i = (102 - (i + 1)) + 1 by omega]
   simpa [cutE] using h
theorem Cut_ev (l : List Ed) (n : Nat) (hl : l.length ≤ 9223372036854775807) : Ev (fun k => marginaliaref01_Cut.f k l (n : Int)) (cut n l) := by
 have h := Cut_loop l n hl 102 0 [] rfl (by omega) (by simp) rfl
 simpa [cut, marginaliaref01_Cut.f] using h
theorem cut_length (n : Nat) (l : List Ed) : (cut n l).length ≤ 102 := by simp [cut]; omega
/-- What Cut leaves. -/
def Fine (n : Nat) (l : List Ed) : Prop := l.length ≤ 102 ∧ ∀ e ∈ l, Ok e ∧ e.f2.size ≤ n
theorem cut_fine {n : Nat} {l : List Ed} (h : ∀ e ∈ l, ok39 e) : Fine n (cut n l) := by
 refine ⟨cut_length n l, fun e he => ?_⟩; obtain ⟨x, hx, rfl⟩ := List.mem_map.1 he; have := h x (List.mem_of_mem_take hx); refine ⟨⟨this.1, this.2.1⟩, ?_⟩; simp only [cutE, ByteArray.size_extract]
 omega

/-! ### Check -/
def sp (m : Int) : Int → List Ed → Bool
 | _, [] => true
 | p, e :: r => decide (p ≤ e.f0) && (decide (e.f0 ≤ e.f1) && (decide (e.f1 ≤ m) && sp m e.f1 r))
theorem sp_cons {m p : Int} {e : Ed} {r : List Ed} (h : sp m p (e :: r) = true) : p ≤ e.f0 ∧ e.f0 ≤ e.f1 ∧ e.f1 ≤ m ∧ sp m e.f1 r = true := by
 simpa [sp] using h
def spanSum (l : List Ed) : Int := (l.map fun e => e.f1 - e.f0).sum
def newSum (l : List Ed) : Nat := (l.map fun e => e.f2.size).sum
theorem spanSum_cons (e : Ed) (r : List Ed) : spanSum (e :: r) = (e.f1 - e.f0) + spanSum r := by simp [spanSum]
theorem newSum_cons (e : Ed) (r : List Ed) : newSum (e :: r) = e.f2.size + newSum r := by simp [newSum]
theorem span_le {m : Int} : ∀ {p : Int} {l : List Ed}, sp m p l = true → p ≤ m → 0 ≤ spanSum l ∧ spanSum l ≤ m - p
 | p, [], _, hp => by simp [spanSum]; omega
 | p, e :: r, h, hp => by
  obtain ⟨h1, h2, h3, h4⟩ := sp_cons h; have := span_le h4 h3; rw [spanSum_cons]
  omega
theorem newSum_le {n : Nat} {l : List Ed} (h : ∀ e ∈ l, Ok e ∧ e.f2.size ≤ n) : newSum l ≤ l.length * n := by
 induction l with
 | nil => simp [newSum]
 | cons e r ih =>
  have h1 := (h e (by simp)).2; have h2 := ih (fun x hx => h x (by simp [hx])); rw [newSum_cons, List.length_cons, Nat.add_mul, Nat.one_mul]
  omega
/-- Edits that are few, with News that are not long together. -/
def Fit (l : List Ed) : Prop := l.length ≤ 102 ∧ newSum l ≤ 1000000
theorem Fine.fit {n : Nat} {l : List Ed} (hf : Fine n l) (hn : n ≤ 9000) : Fit l := by
 have h1 := newSum_le hf.2; have h2 : l.length * n ≤ 102 * 9000 := Nat.mul_le_mul hf.1 hn; exact ⟨hf.1, by omega⟩
/-- The error of edits of a text of so many bytes. -/
def chk (n : Int) (l : List Ed) : Int :=
 if n > 20000 then 3 else if (l.length : Int) > 100 then 3 else if sp n 0 l = true then (if n - spanSum l + newSum l > 20000 then 7 else 0) else 2
theorem spans_loop (l : List Ed) (m : Int) (hl : l.length ≤ 9223372036854775807) : ∀ (r : List Ed) (i : Nat) (p : Int), l.drop i = r →
  Ev (fun k => rope_spans.l0 k m p l (l.length : Int) (i : Int)) (if sp m p r = true then 0 else 2) := by
 intro r
 induction r with
 | nil =>
  intro i p hd; have := le_of_nil hd; refine Ev.shift ?_; simp only [rope_spans.l0]; refine Ev.neg (by omega) ?_
  simpa [sp] using Ev.now (0 : Int)
 | cons e r ih =>
  intro i p hd; have hlt := lt_of_drop hd; refine Ev.shift ?_; simp only [rope_spans.l0]; rw [rd_at hd]; refine Ev.pos (by omega) (Ev.pos (by omega) (Ev.pos (by omega) ?_)); by_cases h1 : e.f0 < p
  ·refine Ev.pos h1 ?_; rw [if_neg (by simp [sp]; intro h; omega)]; exact Ev.now _
  refine Ev.neg h1 ?_; by_cases h2 : e.f1 < e.f0
  ·refine Ev.pos h2 ?_; rw [if_neg (by simp [sp]; intro _ h; omega)]; exact Ev.now _
  refine Ev.neg h2 ?_; by_cases h3 : e.f1 > m
  ·refine Ev.pos h3 ?_; rw [if_neg (by simp [sp]; intro _ _ h; omega)]; exact Ev.now _
  refine Ev.neg h3 ?_; rw [w64 (by omega) (by omega)]; have h := ih (i + 1) e.f1 (drop_next hd)
  have e1 : sp m p (e :: r) = sp m e.f1 r := by
   simp only [sp]; rw [decide_eq_true (by omega), decide_eq_true (by omega), decide_eq_true (by omega)]; rfl
  rw [e1]
  simpa using h
theorem spans_ev (l : List Ed) (m : Int) (hl : l.length ≤ 9223372036854775807) : Ev (fun k => rope_spans.f k m l) (if (l.length : Int) > 100 then 3 else if sp m 0 l = true then 0 else 2) := by
 unfold rope_spans.f; by_cases h : (l.length : Int) > 100
 ·rw [if_pos h]; exact Ev.pos h (Ev.now _)
 ·rw [if_neg h]; exact Ev.neg h (spans_loop l m hl l 0 0 rfl)
theorem check_l1 (l : List Ed) (hl : l.length ≤ 9223372036854775807) (hn : newSum l ≤ 1000000) : ∀ (r : List Ed) (i : Nat) (x : Int), l.drop i = r → 0 ≤ x → x ≤ 20000 → newSum r ≤ 1000000 →
  Ev (fun k => rope_check.l1 k x l (l.length : Int) (i : Int)) (if x + newSum r > 20000 then 7 else 0) := by
 intro r
 induction r with
 | nil =>
  intro i x hd hx hx2 _; have := le_of_nil hd; refine Ev.shift ?_; simp only [rope_check.l1]; refine Ev.neg (by omega) ?_; rw [if_neg (by simp [newSum]; omega)]; exact Ev.now _
 | cons e r ih =>
  intro i x hd hx hx2 hns; have hlt := lt_of_drop hd; rw [newSum_cons] at hns ⊢; refine Ev.shift ?_; simp only [rope_check.l1]; rw [rd_at hd]; refine Ev.pos (by omega) (Ev.pos (by omega) (Ev.pos (by omega) ?_)); rw [w64 (n := 20000 - x) (by omega) (by omega)]; by_cases h1 : (e.f2.size : Int) > 20000 - x
  ·rw [if_pos (by omega)]; exact Ev.pos h1 (Ev.now _)
  ·refine Ev.neg h1 ?_; rw [w64 (n := x + _) (by omega) (by omega), w64 (by omega) (by omega)]; have h := ih (i + 1) (x + e.f2.size) (drop_next hd) (by omega) (by omega) (by omega); rw [show x + (e.f2.size : Int) + (newSum r : Int) = x + ((e.f2.size + newSum r : Nat) : Int) by omega] at h
   simpa using h
theorem check_l0 (l : List Ed) (m : Int) (hm : m ≤ 20000) (hl : l.length ≤ 9223372036854775807) (hn : newSum l ≤ 1000000) : ∀ (r : List Ed) (i : Nat) (x p : Int), l.drop i = r → sp m p r = true → 0 ≤ p → p ≤ m → spanSum r ≤ x → x ≤ 20000 →
  Ev (fun k => rope_check.l0 k l x l (l.length : Int) (i : Int)) (if x - spanSum r + newSum l > 20000 then 7 else 0) := by
 intro r
 induction r with
 | nil =>
  intro i x p hd hs hp hp2 hx hx2; have := le_of_nil hd; refine Ev.shift ?_; simp only [rope_check.l0]; refine Ev.neg (by omega) ?_
  have hz : spanSum ([] : List Ed) = 0 := (by simp [spanSum])
  rw [hz] at hx ⊢; have h := check_l1 l hl hn l 0 x rfl hx hx2 hn
  simpa using h
 | cons e r ih =>
  intro i x p hd hs hp hp2 hx hx2; have hlt := lt_of_drop hd; obtain ⟨h1, h2, h3, h4⟩ := sp_cons hs; have h5 := span_le h4 h3; rw [spanSum_cons] at hx ⊢; refine Ev.shift ?_; simp only [rope_check.l0]; rw [rd_at hd]; refine Ev.pos (by omega) (Ev.pos (by omega) (Ev.pos (by omega) ?_)); rw [w64 (n := e.f0 - e.f1) (by omega) (by omega), w64 (n := x + _) (by omega) (by omega), w64 (by omega) (by omega)]; have h := ih (i + 1) (x + (e.f0 - e.f1)) e.f1 (drop_next hd) h4 (by omega) h3 (by omega) (by omega); rw [show x + (e.f0 - e.f1) - spanSum r = x - (e.f1 - e.f0 + spanSum r) by omega] at h
  simpa using h
theorem check_ev (s : ByteArray) (l : List Ed) (hs : s.size ≤ 9223372036854775807) (hf : Fit l) : Ev (fun k => rope_Check.f k s l) (chk s.size l) := by
 have hl : l.length ≤ 9223372036854775807 := (by have := hf.1; omega)
 have hns : newSum l ≤ 1000000 := hf.2; unfold rope_Check.f chk; by_cases h1 : (s.size : Int) > 20000
 ·rw [if_pos h1]; exact Ev.pos h1 (Ev.now _)
 rw [if_neg h1]; refine Ev.neg h1 (Ev.bind (a := _) ?_ (Ev.now _)); unfold rope_check.f; refine Ev.bind (spans_ev l s.size hl) ?_; by_cases h2 : (l.length : Int) > 100
 ·simp only [if_pos h2]; exact Ev.neg (by decide) (Ev.now _)
 simp only [if_neg h2]; by_cases h3 : sp s.size 0 l = true
 ·simp only [if_pos h3]; have h4 := span_le h3 (by omega); exact Ev.pos (by simp) (check_l0 l s.size (by omega) hl hns l 0 s.size 0 rfl h3 (by omega) (by omega) (by omega) (by omega))
 ·simp only [if_neg h3]; exact Ev.neg (by decide) (Ev.now _)
theorem rcheck_loop (s : ByteArray) (l : List Ed) (hs : s.size ≤ 20000) (hl : l.length ≤ 9223372036854775807) : ∀ (r : List Ed) (i : Nat) (p x : Int), l.drop i = r → 0 ≤ p → p ≤ s.size → s.size - p ≤ x → x + newSum r ≤ 2000000 →
  Ev (fun k => marginaliaref01_Check.l0 k s l p x (i : Int)) (if sp s.size p r = true then (if x - spanSum r + newSum r > 20000 then 7 else 0) else 2) := by
 intro r
 induction r with
 | nil =>
  intro i p x hd hp hp2 hx hx2; have := le_of_nil hd; refine Ev.shift ?_; simp only [marginaliaref01_Check.l0]; refine Ev.neg (by omega) ?_; by_cases h : x > 20000
  ·refine Ev.pos h ?_
   simpa [sp, spanSum, newSum, h] using Ev.now (7 : Int)
  ·refine Ev.neg h ?_
   simpa [sp, spanSum, newSum, h] using Ev.now (0 : Int)
 | cons e r ih =>
  intro i p x hd hp hp2 hx hx2; have hlt := lt_of_drop hd; rw [newSum_cons] at hx2; refine Ev.shift ?_; simp only [marginaliaref01_Check.l0]; rw [rd_at hd]; refine Ev.pos (by omega) (Ev.pos (by omega) ?_); by_cases h1 : e.f0 < p
  ·refine Ev.pos h1 ?_; rw [if_neg (by simp [sp]; intro h; omega)]; exact Ev.now _
  refine Ev.neg h1 ?_; by_cases h2 : e.f1 < e.f0
  ·refine Ev.pos h2 ?_; rw [if_neg (by simp [sp]; intro _ h; omega)]; exact Ev.now _
  refine Ev.neg h2 ?_; by_cases h3 : e.f1 > s.size
  ·refine Ev.pos h3 ?_; rw [if_neg (by simp [sp]; intro _ _ h; omega)]; exact Ev.now _
  refine Ev.neg h3 ?_; rw [w64 (n := e.f1 - e.f0) (by omega) (by omega), w64 (n := (e.f2.size : Int) - _) (by omega) (by omega), w64 (n := x + _) (by omega) (by omega), w64 (by omega) (by omega)]; have h := ih (i + 1) e.f1 (x + ((e.f2.size : Int) - (e.f1 - e.f0))) (drop_next hd) (by omega) (by omega) (by omega) (by omega)
  have e1 : sp s.size p (e :: r) = sp s.size e.f1 r := by
   simp only [sp]; rw [decide_eq_true (by omega), decide_eq_true (by omega), decide_eq_true (by omega)]; rfl
  rw [e1, spanSum_cons, newSum_cons]; rw [show x + ((e.f2.size : Int) - (e.f1 - e.f0)) - spanSum r + (newSum r : Int) = x - (e.f1 - e.f0 + spanSum r) + ((e.f2.size + newSum r : Nat) : Int) by omega] at h
  simpa using h
theorem rcheck_ev (s : ByteArray) (l : List Ed) (hs : s.size ≤ 9223372036854775807) (hf : Fit l) : Ev (fun k => marginaliaref01_Check.f k s l) (chk s.size l) := by
 have hl : l.length ≤ 9223372036854775807 := (by have := hf.1; omega)
 have hns : newSum l ≤ 1000000 := hf.2; unfold marginaliaref01_Check.f chk; by_cases h1 : (s.size : Int) > 20000
 ·simp only [if_pos h1]; refine Ev.shift ?_; simp only [marginaliaref01_Check.j0]; exact Ev.pos (by simp) (Ev.now _)
 simp only [if_neg h1]; refine Ev.shift ?_; simp only [marginaliaref01_Check.j0]; by_cases h2 : (l.length : Int) > 100
 ·simp only [if_pos h2]; exact Ev.pos (decide_eq_true h2) (Ev.now _)
 simp only [if_neg h2]; refine Ev.neg (by simpa using h2) ?_; exact rcheck_loop s l (by omega) hl l 0 0 s.size rfl (by omega) (by omega) (by omega) (by omega)
/-- What a check that passed says. -/
theorem chk_ok {n : Int} {l : List Ed} (h : chk n l = 0) : n ≤ 20000 ∧ l.length ≤ 100 ∧ sp n 0 l = true ∧ n - spanSum l + newSum l ≤ 20000 := by
 unfold chk at h
 split at h
 ·cases h
 split at h
 ·cases h
 split at h
 ·split at h
  ·cases h
  ·exact ⟨by omega, by omega, by assumption, by omega⟩
 ·cases h
def grow (e : Ed) : Int := (e.f2.size : Int) - (e.f1 - e.f0)
/-! ### Apply -/
def ba (l : List UInt8) : ByteArray := ⟨l.toArray⟩
def cutS (s : ByteArray) (a b : Int) : List UInt8 := (s.extract a.toNat b.toNat).data.toList
theorem ba_size (l : List UInt8) : (ba l).size = l.length := by simp [ba, ByteArray.size]
theorem ba_list (l : List UInt8) : (ba l).data.toList = l := by simp [ba]
theorem list_ba (s : ByteArray) : ba s.data.toList = s := by
 apply ByteArray.ext
 simp [ba]
theorem ba_append (l : List UInt8) (s : ByteArray) : ba l ++ s = ba (l ++ s.data.toList) := by
 apply ByteArray.ext
 simp [ba]
theorem cutS_eq (s : ByteArray) (a b : Int) : cutS s a b = (s.data.toList.take b.toNat).drop a.toNat := by
 rw [cutS, ByteArray.data_extract, Array.toList_extract, List.extract_eq_take_drop, List.drop_take]
theorem cutS_length (s : ByteArray) (a b : Int) : (cutS s a b).length = min b.toNat s.size - a.toNat := by
 rw [cutS, Ut.size_data, ByteArray.size_extract]
def app (s : ByteArray) : Int → List Ed → List UInt8
 | p, [] => cutS s p s.size
 | p, e :: r => cutS s p e.f0 ++ e.f2.data.toList ++ app s e.f1 r
theorem app_length (s : ByteArray) : ∀ (l : List Ed) (p : Int), sp s.size p l = true → 0 ≤ p → p ≤ s.size → ((app s p l).length : Int) = s.size - p - spanSum l + newSum l
 | [], p, _, h0, h1 => by
  simp only [app, cutS_length, spanSum, newSum, List.map_nil, List.sum_nil]
  omega
 | e :: r, p, h, h0, h1 => by
  obtain ⟨h2, h3, h4, h5⟩ := sp_cons h; have := app_length s r e.f1 h5 (by omega) h4; rw [spanSum_cons, newSum_cons]; simp only [app, List.length_append, cutS_length, Ut.size_data]
  omega
theorem go_eq (s : ByteArray) : ∀ (l : List Ed) (p : Int) (acc : List UInt8), sp s.size p l = true → 0 ≤ p → p ≤ s.size → acc.length + (app s p l).length ≤ 140737488355328 → rope_Apply.go s l p acc = some (acc ++ app s p l)
 | [], p, acc, _, h0, h1, hb => by
  have e : (s.extract p.toNat s.size).data.toList = app s p [] := (by simp [app, cutS])
  have e2 : (s.extract p.toNat s.size).size = (app s p []).length := (by rw [← e, Ut.size_data])
  unfold rope_Apply.go; rw [if_pos h0, if_pos h1, e2, if_pos hb, e]
 | e :: r, p, acc, h, h0, h1, hb => by
  obtain ⟨h2, h3, h4, h5⟩ := sp_cons h; have e1 : (s.extract p.toNat e.f0.toNat).data.toList = cutS s p e.f0 := rfl
  have e2 : (s.extract p.toNat e.f0.toNat).size = (cutS s p e.f0).length := (by rw [← e1, Ut.size_data])
  simp only [app, List.length_append, Ut.size_data] at hb; unfold rope_Apply.go; rw [if_pos h0, if_pos h2, if_pos (by omega), e2, if_pos (by omega), e1, go_eq s r e.f1 _ h5 (by omega) h4 (by simp only [List.length_append, Ut.size_data]; omega)]
  simp [app]
theorem apply_ev (s : ByteArray) (l : List Ed) (hs : s.size ≤ 9223372036854775807) (hf : Fit l) : Ev (fun k => rope_Apply.f k s l) (if chk s.size l = 0 then ba (app s 0 l) else ⟨#[]⟩, chk s.size l) := by
 unfold rope_Apply.f; refine Ev.bind (check_ev s l hs hf) ?_; by_cases h : chk s.size l = 0
 ·obtain ⟨h1, h2, h3, h4⟩ := chk_ok h; have h5 := app_length s l 0 h3 (by omega) (by omega); rw [go_eq s l 0 [] h3 (by omega) (by omega) (by simp only [List.length_nil]; omega)]; simp only [if_pos h, h]; exact Ev.now _
 ·simp only [if_neg h]; exact Ev.now _
theorem rapply_loop (s : ByteArray) (l : List Ed) (hs : s.size ≤ 20000) (hl : l.length ≤ 102) : ∀ (r : List Ed) (i : Nat) (p : Int) (acc : List UInt8), l.drop i = r → sp s.size p r = true → 0 ≤ p → p ≤ s.size → acc.length + (app s p r).length ≤ 1000000 →
  Ev (fun k => marginaliaref01_Apply.l0 k s l (ba acc) p (i : Int)) (ba (acc ++ app s p r)) := by
 intro r
 induction r with
 | nil =>
  intro i p acc hd hsp h0 h1 hb; have := le_of_nil hd
  have e : (s.extract p.toNat s.size).data.toList = app s p [] := (by simp [app, cutS])
  have e2 : (s.extract p.toNat s.size).size = (app s p []).length := (by rw [← e, Ut.size_data])
  refine Ev.shift ?_; simp only [marginaliaref01_Apply.l0]; refine Ev.neg (by omega) (Ev.pos h0 (Ev.pos h1 ?_)); rw [ba_size, e2, ba_append, e]; exact Ev.pos (by omega) (Ev.now _)
 | cons e r ih =>
  intro i p acc hd hsp h0 h1 hb; have hlt := lt_of_drop hd; obtain ⟨h2, h3, h4, h5⟩ := sp_cons hsp; have e1 : (s.extract p.toNat e.f0.toNat).data.toList = cutS s p e.f0 := rfl
  have e2 : (s.extract p.toNat e.f0.toNat).size = (cutS s p e.f0).length := (by rw [← e1, Ut.size_data])
  simp only [app, List.length_append, Ut.size_data] at hb; refine Ev.shift ?_; simp only [marginaliaref01_Apply.l0]; rw [rd_at hd, ba_append, ba_append, ba_size, ba_size, e1, e2]; refine Ev.pos (by omega) (Ev.pos (by omega) (Ev.pos h0 (Ev.pos h2 (Ev.pos (by omega) (Ev.pos (by omega) (Ev.pos (by simp only [List.length_append]; omega) ?_)))))); rw [w64 (by omega) (by omega)]; have h := ih (i + 1) e.f1 (acc ++ cutS s p e.f0 ++ e.f2.data.toList) (drop_next hd) h5 (by omega) h4 (by simp only [List.length_append, Ut.size_data]; omega)
  simpa [app] using h
theorem rapply_ev (s : ByteArray) (l : List Ed) (h : chk s.size l = 0) : Ev (fun k => marginaliaref01_Apply.f k s l) (ba (app s 0 l)) := by
 obtain ⟨h1, h2, h3, h4⟩ := chk_ok h; have h5 := app_length s l 0 h3 (by omega) (by omega); have := rapply_loop s l (by omega) (by omega) l 0 0 [] rfl h3 (by omega) (by omega) (by simp only [List.length_nil]; omega); exact this

/-! ### Invert -/
def inv (s : ByteArray) : Int → List Ed → List Ed
 | _, [] => []
 | b, e :: r => ⟨e.f0 + b, e.f0 + b + e.f2.size, s.extract e.f0.toNat e.f1.toNat⟩ :: inv s (b + grow e) r
theorem inv_length (s : ByteArray) : ∀ (l : List Ed) (b : Int), (inv s b l).length = l.length
 | [], _ => rfl
 | e :: r, b => by simp [inv, inv_length s r]
theorem invert_loop (s : ByteArray) (l : List Ed) (hs : s.size ≤ 20000) (hl : l.length ≤ 102) : ∀ (r : List Ed) (i : Nat) (p b : Int) (acc : List Ed), l.drop i = r → sp s.size p r = true → 0 ≤ p → p ≤ s.size → -p ≤ b → b + newSum r ≤ 2000000 → acc.length ≤ i →
  Ev (fun k => rope_Invert.l0 k s acc b l (l.length : Int) (i : Int)) (acc ++ inv s b r, 0) := by
 intro r
 induction r with
 | nil =>
  intro i p b acc hd hsp h0 h1 hb hb2 ha; have := le_of_nil hd; refine Ev.shift ?_; simp only [rope_Invert.l0, inv, List.append_nil]; exact Ev.neg (by omega) (Ev.now _)
 | cons e r ih =>
  intro i p b acc hd hsp h0 h1 hb hb2 ha; have hlt := lt_of_drop hd; obtain ⟨h2, h3, h4, h5⟩ := sp_cons hsp; rw [newSum_cons] at hb2; refine Ev.shift ?_; simp only [rope_Invert.l0]; rw [rd_at hd]; refine Ev.pos (by omega) (Ev.pos (by omega) (Ev.pos (by omega) (Ev.pos (by omega) (Ev.pos (by omega) (Ev.pos (by omega) (Ev.pos (by omega) ?_)))))); rw [w64 (n := e.f1 - e.f0) (by omega) (by omega), w64 (n := (e.f2.size : Int) - _) (by omega) (by omega), w64 (n := b + _) (by omega) (by omega), w64 (n := (i : Int) + 1) (by omega) (by omega), w64 (n := e.f0 + b) (by omega) (by omega), w64 (by omega) (by omega)]; have h := ih (i + 1) e.f1 (b + grow e) (acc ++ [⟨e.f0 + b, e.f0 + b + e.f2.size, s.extract e.f0.toNat e.f1.toNat⟩]) (drop_next hd) h5 (by omega) h4 (by unfold grow; omega) (by unfold grow; omega) (by simp; omega)
  simpa [grow, inv] using h
theorem invert_ev (s : ByteArray) (l : List Ed) (hs : s.size ≤ 9223372036854775807) (hf : Fit l) : Ev (fun k => rope_Invert.f k s l) (if chk s.size l = 0 then inv s 0 l else [], chk s.size l) := by
 unfold rope_Invert.f; refine Ev.bind (check_ev s l hs hf) ?_; by_cases h : chk s.size l = 0
 ·obtain ⟨h1, h2, h3, h4⟩ := chk_ok h; have h5 := span_le h3 (by omega); simp only [if_pos h, h]; exact Ev.pos (by simp) (invert_loop s l (by omega) hf.1 l 0 0 0 [] rfl h3 (by omega) (by omega) (by omega) (by omega) (by simp))
 ·simp only [if_neg h]; exact Ev.now _
abbrev Sp := S75
def places : Int → List Ed → List Sp
 | _, [] => []
 | b, e :: r => ⟨e.f0 + b, e.f0 + b + e.f2.size⟩ :: places (b + grow e) r
theorem places_loop (m : Int) (hm : m ≤ 20000) (l : List Ed) (hl : l.length ≤ 102) : ∀ (r : List Ed) (i : Nat) (p b : Int) (acc : List Sp), l.drop i = r → sp m p r = true → 0 ≤ p → p ≤ m → -p ≤ b → b + newSum r ≤ 2000000 → acc.length ≤ i →
  Ev (fun k => marginaliaref01_Places.l0 k l acc b (i : Int)) (acc ++ places b r) := by
 intro r
 induction r with
 | nil =>
  intro i p b acc hd hsp h0 h1 hb hb2 ha; have := le_of_nil hd; refine Ev.shift ?_; simp only [marginaliaref01_Places.l0, places, List.append_nil]; exact Ev.neg (by omega) (Ev.now _)
 | cons e r ih =>
  intro i p b acc hd hsp h0 h1 hb hb2 ha; have hlt := lt_of_drop hd; obtain ⟨h2, h3, h4, h5⟩ := sp_cons hsp; rw [newSum_cons] at hb2; refine Ev.shift ?_; simp only [marginaliaref01_Places.l0]; rw [rd_at hd]; refine Ev.pos (by omega) (Ev.pos (by omega) (Ev.pos (by omega) ?_)); rw [w64 (n := e.f1 - e.f0) (by omega) (by omega), w64 (n := (e.f2.size : Int) - _) (by omega) (by omega), w64 (n := b + _) (by omega) (by omega), w64 (n := (i : Int) + 1) (by omega) (by omega), w64 (n := e.f0 + b) (by omega) (by omega), w64 (by omega) (by omega)]; have h := ih (i + 1) e.f1 (b + grow e) (acc ++ [⟨e.f0 + b, e.f0 + b + e.f2.size⟩]) (drop_next hd) h5 (by omega) h4 (by unfold grow; omega) (by unfold grow; omega) (by simp; omega)
  simpa [grow, places] using h
theorem places_length : ∀ (l : List Ed) (b : Int), (places b l).length = l.length
 | [], _ => rfl
 | e :: r, b => by simp [places, places_length r]
theorem rd_sp {l : List Sp} {i : Nat} {e : Sp} {r : List Sp} (h : l.drop i = e :: r) : rd_T75 l (i : Int) = e := by
 have h1 : l[i]? = some e := by
  have := congrArg (fun x : List Sp => x[0]?) h
  simpa [List.getElem?_drop] using this
 simp [rd_T75, List.getD_eq_getElem?_getD, h1]
end Go.Proofs.Ytahcpappailjgaa.P

set_option linter.unusedVariables false
set_option linter.unusedSimpArgs false
namespace Go.Proofs.Ytahcpappailjgaa.P
open Go.RowKit Go.Proofs.YtahcpappailjgaaW.PrintWords Go.Proofs.YtahcpappailjgaaW.PrintLast Go.Proofs.YtahcpappailjgaaW.PrintMore
/-! ### bytes -/
abbrev Bs := List UInt8
theorem bt_drop {s : ByteArray} {i : Nat} {c : UInt8} {r : Bs} (h : s.data.toList.drop i = c :: r) : i < s.size ∧ bt s (i : Int) = (c.toNat : Int) := by
 have h0 : i < s.size := by
  have := congrArg List.length h; simp only [List.length_drop, List.length_cons] at this; rw [Ut.size_data] at this
  omega
 refine ⟨h0, ?_⟩; rw [← bt_at s (i : Int) h0]
 have h1 : s.data.toList[i]? = some c := by
  have := congrArg (fun x : Bs => x[0]?) h
  simpa [List.getElem?_drop] using this
 have h2 : s.data[i]? = some c := (by rw [← Array.getElem?_toList]; exact h1)
 have h3 : s.data[i]? = some (s.data[i]'h0) := Array.getElem?_eq_getElem h0; rw [h3] at h2; injection h2 with h2
 show ((s.data[i]'h0).toNat : Int) = _
 rw [h2]
theorem nil_drop {s : ByteArray} {i : Nat} (h : s.data.toList.drop i = []) : s.size ≤ i := by
 have := le_of_nil h; rw [Ut.size_data] at this; exact this
theorem ext_list (s : ByteArray) (a b : Nat) : (s.extract a b).data.toList = (s.data.toList.drop a).take (b - a) := by
 rw [ByteArray.data_extract, Array.toList_extract, List.extract_eq_take_drop]
theorem drop_cons_of_lt {s : ByteArray} {i : Nat} (h : i < s.size) : ∃ c r, s.data.toList.drop i = c :: r := by
 cases e : s.data.toList.drop i with
 | nil => have := nil_drop e; omega
 | cons c r => exact ⟨c, r, rfl⟩
def bk (c : UInt8) : Bool := c == 32 || c == 9 || c == 10 || c == 13
def lt (c : UInt8) : Bool := (decide (97 ≤ c.toNat) && decide (c.toNat ≤ 122)) || (decide (65 ≤ c.toNat) && decide (c.toNat ≤ 90)) || c == 95
def dg (c : UInt8) : Bool := decide (48 ≤ c.toNat) && decide (c.toNat ≤ 57)
def ld (c : UInt8) : Bool := lt c || dg c
theorem byte_all {P : UInt8 → Prop} [DecidablePred P] (h : ∀ n : Fin 256, P (UInt8.ofNat n.val)) (c : UInt8) : P c := by
 have := h ⟨c.toNat, UInt8.toNat_lt c⟩
 simpa using this
theorem iblank (c : UInt8) : token_isBlank.f (c.toNat : Int) = some (bk c) := byte_all (P := fun c => token_isBlank.f (c.toNat : Int) = some (bk c)) (by decide +kernel) c
theorem iletter (c : UInt8) : token_isLetter.f (c.toNat : Int) = some (lt c) := byte_all (P := fun c => token_isLetter.f (c.toNat : Int) = some (lt c)) (by decide +kernel) c
theorem idigit (c : UInt8) : token_isDigit.f (c.toNat : Int) = some (dg c) := byte_all (P := fun c => token_isDigit.f (c.toNat : Int) = some (dg c)) (by decide +kernel) c
theorem rblank (c : UInt8) : marginaliaref03_Blank.f (c.toNat : Int) = some (bk c) := byte_all (P := fun c => marginaliaref03_Blank.f (c.toNat : Int) = some (bk c)) (by decide +kernel) c
theorem rletter (c : UInt8) : marginaliaref03_Letter.f (c.toNat : Int) = some (lt c) := byte_all (P := fun c => marginaliaref03_Letter.f (c.toNat : Int) = some (lt c)) (by decide +kernel) c
theorem rdigit (c : UInt8) : marginaliaref03_Digit.f (c.toNat : Int) = some (dg c) := byte_all (P := fun c => marginaliaref03_Digit.f (c.toNat : Int) = some (dg c)) (by decide +kernel) c
theorem iletdig (c : UInt8) : token_good.letdig (c.toNat : Int) = some (ld c) := by
 unfold token_good.letdig ld; rw [iletter]
 show (if lt c = true then some true else token_isDigit.f (c.toNat : Int)) = _
 rw [idigit]
 cases lt c <;> rfl
/-- How many bytes at the beginning are of a sort. -/
def rn (p : UInt8 → Bool) : Bs → Nat
 | [] => 0
 | c :: r => if p c = true then rn p r + 1 else 0
theorem rn_le (p : UInt8 → Bool) : ∀ l, rn p l ≤ l.length
 | [] => Nat.le_refl _
 | c :: r => by
  rw [rn]
  split
  ·have := rn_le p r; simp only [List.length_cons]; omega
  ·omega
theorem irun {q : Int → Option Bool} {p : UInt8 → Bool} (h : ∀ c : UInt8, q (c.toNat : Int) = some (p c)) : ∀ l : Bs, token_good.run q l = some (rn p l)
 | [] => rfl
 | c :: r => by
  rw [token_good.run, h c, rn]
  show (if p c = true then (token_good.run q r).map (· + 1) else some 0) = _
  split
  ·rw [irun h r]; rfl
  ·rfl
def nl (c : UInt8) : Bool := c != 10
theorem index_rn (l : Bs) : (Lib.indexByte l 10 = -1 ∧ rn nl l = l.length) ∨ Lib.indexByte l 10 = (rn nl l : Int) := by
 induction l with
 | nil => exact .inl ⟨rfl, rfl⟩
 | cons c r ih =>
  rw [Lib.indexByte, rn]; by_cases hc : c = 10
  ·subst hc
   right
   simp [nl]
  ·have h1 : (c == 10) = false := beq_eq_false_iff_ne.2 hc
   have h2 : nl c = true := (by simp [nl, hc])
   rw [if_neg (by rw [h1]; decide), if_pos h2]
   rcases ih with ⟨e1, e2⟩ | e
   ·rw [e1]
    left
    exact ⟨by simp, by simp [e2]⟩
   ·right
    rw [e]; have : ((rn nl r : Int) == -1) = false := beq_eq_false_iff_ne.2 (by omega); rw [this]
    simp
theorem iline (s : ByteArray) : token_line.f s = some (rn nl s.data.toList : Int) := by
 unfold token_line.f strings_IndexByte.f
 show (if Lib.indexByte s.data.toList 10 ≥ 0 then _ else _) = _
 rcases index_rn s.data.toList with ⟨e1, e2⟩ | e
 ·rw [e1, if_neg (by decide), e2, Ut.size_data]
 ·have e' : Lib.indexByte s.data.toList (Int.toNat 10).toUInt8 = (rn nl s.data.toList : Int) := e; rw [e, if_pos (by omega), e']
/-! ### words and signs -/
def ws : List Bs := [[100, 101, 102], [101, 108, 115, 101], [102, 97, 108, 115, 101], [102, 110], [105, 102], [105, 109, 112, 111, 114, 116], [105, 110], [108, 101, 116], [109, 97, 116, 99, 104], [116, 104, 101, 110], [116, 114, 117, 101], [116, 121, 112, 101]]
def sg : List Bs := [[33], [38, 38], [40], [41], [42], [43], [44], [45], [45, 62], [46], [58], [59], [60], [61], [61, 61], [61, 62], [91], [93], [123], [124], [124, 124], [125]]
def chain (x : Bs) : List Bs → Option Bool
 | [] => some false
 | y :: r => if x = y then some true else chain x r
theorem chain_eq (x : Bs) : ∀ l, chain x l = some (decide (x ∈ l))
 | [] => by simp [chain]
 | y :: r => by
  rw [chain, chain_eq x r]; by_cases h : x = y
  ·simp [h]
  ·simp [h]
theorem iword (s : ByteArray) : token_isWord.f s = some (decide (s.data.toList ∈ ws)) := by
 rw [← chain_eq, ← Lib.toList_data]; rfl
theorem isign (s : ByteArray) : token_isSign.f s = some (decide (s.data.toList ∈ sg)) := by
 rw [← chain_eq, ← Lib.toList_data]; rfl
theorem has_loop (l : List ByteArray) (x : ByteArray) (hl : l.length ≤ 100) : ∀ (r : List ByteArray) (i : Nat), l.drop i = r → Ev (fun k => marginaliaref03_has.l0 k l x (i : Int)) (decide (x.data.toList ∈ r.map fun y => y.data.toList)) := by
 intro r
 induction r with
 | nil =>
  intro i h; have := le_of_nil h; refine Ev.shift ?_; simp only [marginaliaref03_has.l0]; exact Ev.neg (by omega) (Ev.now _)
 | cons e r ih =>
  intro i h; have hlt := lt_of_drop h; refine Ev.shift ?_; simp only [marginaliaref03_has.l0]
  have he : rdOf ByteArray.empty l (i : Int) = e := by
   have h1 : l[i]? = some e := by
    have := congrArg (fun x : List ByteArray => x[0]?) h
    simpa [List.getElem?_drop] using this
   simp [rdOf, List.getD_eq_getElem?_getD, h1]
  rw [he, Lib.toList_data, Lib.toList_data]; refine Ev.pos (by omega) (Ev.pos (by omega) ?_); by_cases hx : e.data.toList = x.data.toList
  ·refine Ev.pos hx ?_; rw [show decide (x.data.toList ∈ (e :: r).map fun y : ByteArray => y.data.toList) = true by simp [hx]]; exact Ev.now _
  ·refine Ev.neg hx ?_
   have hd : decide (x.data.toList ∈ (e :: r).map fun y : ByteArray => y.data.toList) = decide (x.data.toList ∈ r.map fun y : ByteArray => y.data.toList) := by
    rw [List.map_cons]; exact decide_eq_decide.2 ⟨fun h => (List.mem_cons.1 h).elim (fun h => absurd h.symm hx) id, fun h => List.mem_cons_of_mem _ h⟩
   rw [w64 (n := (i : Int) + 1) (by omega) (by omega), hd]
   exact_mod_cast ih (i + 1) (drop_next h)
theorem has_words (x : ByteArray) : ∃ l, marginaliaref03_Words.f = some l ∧ Ev (fun k => marginaliaref03_has.f k l x) (decide (x.data.toList ∈ ws)) :=
 ⟨_, rfl, has_loop _ x (by decide) _ 0 rfl⟩
theorem has_signs (x : ByteArray) : ∃ l, marginaliaref03_Signs.f = some l ∧ Ev (fun k => marginaliaref03_has.f k l x) (decide (x.data.toList ∈ sg)) :=
 ⟨_, rfl, has_loop _ x (by decide) _ 0 rfl⟩
/-- The bytes of the sign at the beginning. -/
def sn (l : Bs) : Nat := if 2 ≤ l.length ∧ l.take 2 ∈ sg then 2 else if l.take 1 ∈ sg then 1 else 0
theorem isn (s : ByteArray) (h0 : 0 < s.size) (hz : s.size ≤ 1000000000) : Ev (fun k => token_sign.f k s) (sn s.data.toList : Int) := by
 have hl := Ut.size_data s; have e2 : (s.extract 0 2).data.toList = s.data.toList.take 2 := ext_list s 0 2; have e1 : (s.extract 0 1).data.toList = s.data.toList.take 1 := ext_list s 0 1
 have one : Ev (fun k => token_sign.l0 k s 1) ((if s.data.toList.take 1 ∈ sg then 1 else 0 : Nat) : Int) := by
  refine Ev.shift ?_; simp only [token_sign.l0]; refine Ev.pos (by decide) (Ev.pos (by decide) (Ev.pos (by omega) ?_)); refine Ev.bind1 (isign _) ?_; rw [show ((1 : Int)).toNat = 1 from rfl, e1]; by_cases h : s.data.toList.take 1 ∈ sg
  ·rw [if_pos h]; exact Ev.pos (decide_eq_true h) (Ev.now _)
  ·rw [if_neg h]; refine Ev.neg (by rw [decide_eq_false h]; decide) (Ev.shift ?_); simp only [token_sign.l0]; rw [w64 (n := (1 : Int) - 1) (by omega) (by omega)]; exact Ev.neg (by decide) (Ev.now _)
 unfold token_sign.f sn; by_cases h2 : 2 ≤ s.size
 ·rw [show mn 2 (s.size : Int) = 2 by unfold mn; split <;> omega]; refine Ev.shift ?_; simp only [token_sign.l0]; refine Ev.pos (by decide) (Ev.pos (by decide) (Ev.pos (by omega) ?_)); refine Ev.bind1 (isign _) ?_; rw [show ((2 : Int)).toNat = 2 from rfl, e2]; by_cases h : s.data.toList.take 2 ∈ sg
  ·rw [if_pos ⟨by omega, h⟩]; exact Ev.pos (decide_eq_true h) (Ev.now _)
  ·rw [if_neg (fun x => h x.2)]; rw [w64 (n := (2 : Int) - 1) (by omega) (by omega)]; exact Ev.neg (by rw [decide_eq_false h]; decide) one
 ·rw [show mn 2 (s.size : Int) = 1 by unfold mn; split <;> omega, if_neg (fun x => by omega)]; exact one
theorem rsn (s : ByteArray) (i : Nat) (h0 : i < s.size) (hz : s.size ≤ 1000000000) : Ev (fun k => marginaliaref03_sign.f k s (i : Int)) (sn (s.data.toList.drop i) : Int) := by
 have hl := Ut.size_data s
 have hd : (s.data.toList.drop i).length = s.size - i := (by rw [List.length_drop, hl])
 have e2 : (s.extract i (i + 2)).data.toList = (s.data.toList.drop i).take 2 := (by rw [ext_list]; congr 1; omega)
 have e1 : (s.extract i (i + 1)).data.toList = (s.data.toList.drop i).take 1 := (by rw [ext_list]; congr 1; omega)
 obtain ⟨l1, hl1, hs1⟩ := has_signs (s.extract i (i + 1)); obtain ⟨l2, hl2, hs2⟩ := has_signs (s.extract i (i + 2)); rw [e1] at hs1; rw [e2] at hs2
 have one : ∀ b : Bool, Ev (fun k => marginaliaref03_sign.j0 k s (i : Int) b) ((if b = true then 2 else if (s.data.toList.drop i).take 1 ∈ sg then 1 else 0 : Nat) : Int) := by
  intro b; refine Ev.shift ?_; simp only [marginaliaref03_sign.j0]
  cases b with
  | true => exact Ev.pos rfl (Ev.now _)
  | false =>
   refine Ev.neg (by decide) (Ev.bind1 hl1 ?_); rw [w64 (n := (i : Int) + 1) (by omega) (by omega)]; refine Ev.pos (by omega) (Ev.pos (by omega) (Ev.pos (by omega) ?_)); rw [show ((i : Int)).toNat = i from rfl, show ((i : Int) + 1).toNat = i + 1 by omega]; refine Ev.bind hs1 ?_; rw [if_neg (show ¬ (false = true) by decide)]; by_cases h : (s.data.toList.drop i).take 1 ∈ sg
   ·rw [if_pos h]; exact Ev.pos (decide_eq_true h) (Ev.now _)
   ·rw [if_neg h]; exact Ev.neg (by rw [decide_eq_false h]; decide) (Ev.now _)
 unfold marginaliaref03_sign.f sn; rw [w64 (n := (i : Int) + 1) (by omega) (by omega), w64 (n := (i : Int) + 2) (by omega) (by omega)]; by_cases h2 : 2 ≤ s.size - i
 ·refine Ev.pos (by omega) (Ev.bind1 hl2 (Ev.pos (by omega) (Ev.pos (by omega) (Ev.pos (by omega) ?_)))); rw [show ((i : Int)).toNat = i from rfl, show ((i : Int) + 2).toNat = i + 2 by omega]; refine Ev.bind hs2 ?_; have := one (decide ((s.data.toList.drop i).take 2 ∈ sg)); simp only [decide_eq_true_eq] at this; by_cases h : (s.data.toList.drop i).take 2 ∈ sg
  ·rw [if_pos h] at this; rw [if_pos ⟨by omega, h⟩]; exact this
  ·rw [if_neg h] at this; rw [if_neg (fun x => h x.2)]; exact this
 ·refine Ev.neg (by omega) ?_; rw [if_neg (fun x => by omega)]; exact one false
/-! ### quotes -/
/-- The bytes up to the closing quote. -/
def qt : Bs → Option Nat
 | [] => none
 | c :: r => if c = 34 then some 1 else if c = 10 then none else if c = 92 then (match r with | [] => none | d :: r' => if d = 110 ∨ d = 34 ∨ d = 92 then (qt r').map (· + 2) else none) else (qt r).map (· + 1)
def qe (i : Nat) : Option Nat → Int
 | none => 0
 | some n => ((i + n : Nat) : Int)
theorem qe_map (i j : Nat) (x : Option Nat) : qe i (x.map (· + j)) = qe (i + j) x := by
 cases x with
 | none => rfl
 | some n => show ((i + (n + j) : Nat) : Int) = ((i + j + n : Nat) : Int); omega
theorem qt_pos : ∀ (m : Nat) (l : Bs), l.length ≤ m → ∀ n, qt l = some n → 0 < n ∧ n ≤ l.length := by
 intro m
 induction m with
 | zero =>
  intro l hl n h; obtain rfl : l = [] := List.eq_nil_of_length_eq_zero (by omega)
  simp [qt] at h
 | succ m ih =>
  intro l hl n h
  cases l with
  | nil => simp [qt] at h
  | cons c r =>
   rw [qt.eq_def] at h; simp only at h; simp only [List.length_cons] at hl ⊢
   split at h
   ·injection h with h; omega
   ·split at h
    ·cases h
    ·split at h
     ·cases r with
      | nil => cases h
      | cons d r' =>
       simp only at h
       split at h
       ·cases e : qt r' with
        | none => rw [e] at h; cases h
        | some x =>
         rw [e, Option.map_some] at h; injection h with h; have h : x + 2 = n := h; have := ih r' (by simp only [List.length_cons] at hl; omega) x e; simp only [List.length_cons]
         omega
       ·cases h
     ·cases e : qt r with
      | none => rw [e] at h; cases h
      | some x =>
       rw [e, Option.map_some] at h; injection h with h; have h : x + 1 = n := h; have := ih r (by omega) x e
       omega
theorem byte_int (c : UInt8) (n : Nat) (hn : n < 256) : ((c.toNat : Int) = (n : Int)) ↔ c = UInt8.ofNat n := by
 constructor
 ·intro h
  have h : c.toNat = n := (by exact_mod_cast h)
  rw [← h]
  simp
 ·intro h; rw [h, UInt8.toNat_ofNat_of_lt' hn]
theorem esc (c : UInt8) : Lib.indexByte [110, 34, 92] ((c.toNat : Int)).toNat.toUInt8 < 0 ↔ ¬ (c = 110 ∨ c = 34 ∨ c = 92) :=
 byte_all (P := fun c => Lib.indexByte [110, 34, 92] ((c.toNat : Int)).toNat.toUInt8 < 0 ↔ ¬ (c = 110 ∨ c = 34 ∨ c = 92)) (by decide +kernel) c
theorem iqt (s : ByteArray) (hz : s.size ≤ 1000000000) : ∀ (m : Nat) (l : Bs) (i : Nat), l.length ≤ m → s.data.toList.drop i = l → Ev (fun k => token_quoted.l0 k s (i : Int)) (qe i (qt l)) := by
 intro m
 induction m with
 | zero =>
  intro l i hl h; obtain rfl : l = [] := List.eq_nil_of_length_eq_zero (by omega); have := nil_drop h; refine Ev.shift ?_; simp only [token_quoted.l0, qt, qe]; exact Ev.neg (by omega) (Ev.now _)
 | succ m ih =>
  intro l i hl h
  cases l with
  | nil =>
   have := nil_drop h; refine Ev.shift ?_; simp only [token_quoted.l0, qt, qe]; exact Ev.neg (by omega) (Ev.now _)
  | cons c r =>
   obtain ⟨hlt, hb⟩ := bt_drop h; simp only [List.length_cons] at hl; refine Ev.shift ?_; simp only [token_quoted.l0]; rw [hb, w64 (n := (i : Int) + 1) (by omega) (by omega), w64 (n := (i : Int) + 1 + 1) (by omega) (by omega)]; refine Ev.pos (by omega) (Ev.pos (by omega) ?_); rw [qt.eq_def]; simp only; by_cases h1 : c = 34
   ·rw [if_pos h1]; exact Ev.pos ((byte_int c 34 (by decide)).2 h1) (Ev.now _)
   ·rw [if_neg h1]; refine Ev.neg (fun x => h1 ((byte_int c 34 (by decide)).1 x)) ?_; by_cases h2 : c = 10
    ·rw [if_pos h2]; exact Ev.pos ((byte_int c 10 (by decide)).2 h2) (Ev.now _)
    ·rw [if_neg h2]; refine Ev.neg (fun x => h2 ((byte_int c 10 (by decide)).1 x)) ?_; by_cases h3 : c = 92
     ·rw [if_pos h3]; refine Ev.pos ((byte_int c 92 (by decide)).2 h3) ?_; have hr := drop_next h
      cases r with
      | nil =>
       have := nil_drop hr; exact Ev.pos (by omega) (Ev.now _)
      | cons d r' =>
       obtain ⟨hlt', hb'⟩ := bt_drop hr; have hb' : bt s ((i : Int) + 1) = (d.toNat : Int) := hb'; rw [hb']; refine Ev.neg (by omega) (Ev.pos (by omega) (Ev.pos (by omega) ?_)); refine Ev.bind1 rfl ?_; simp only; by_cases h4 : d = 110 ∨ d = 34 ∨ d = 92
       ·rw [if_pos h4, qe_map]; refine Ev.neg (fun x => (esc d).1 x h4) ?_; have := ih r' (i + 2) (by simp at hl; omega) (drop_next hr); rw [show (i : Int) + 1 + 1 = ((i + 2 : Nat) : Int) by omega]; exact this
       ·rw [if_neg h4]; exact Ev.pos ((esc d).2 h4) (Ev.now _)
     ·rw [if_neg h3, qe_map]; refine Ev.neg (fun x => h3 ((byte_int c 92 (by decide)).1 x)) ?_
      exact_mod_cast ih r (i + 1) (by omega) (drop_next h)
theorem rqt (s : ByteArray) (hz : s.size ≤ 1000000000) : ∀ (m : Nat) (l : Bs) (i : Nat), l.length ≤ m → s.data.toList.drop i = l → Ev (fun k => marginaliaref03_quoted.l0 k s (i : Int)) (qe i (qt l)) := by
 intro m
 induction m with
 | zero =>
  intro l i hl h; obtain rfl : l = [] := List.eq_nil_of_length_eq_zero (by omega); have := nil_drop h; refine Ev.shift ?_; simp only [marginaliaref03_quoted.l0, qt, qe]; exact Ev.neg (by omega) (Ev.now _)
 | succ m ih =>
  intro l i hl h
  cases l with
  | nil =>
   have := nil_drop h; refine Ev.shift ?_; simp only [marginaliaref03_quoted.l0, qt, qe]; exact Ev.neg (by omega) (Ev.now _)
  | cons c r =>
   obtain ⟨hlt, hb⟩ := bt_drop h; simp only [List.length_cons] at hl; refine Ev.shift ?_; simp only [marginaliaref03_quoted.l0]; rw [hb, w64 (n := (i : Int) + 1) (by omega) (by omega), w64 (n := (i : Int) + 1 + 1) (by omega) (by omega)]; refine Ev.pos (by omega) (Ev.pos (by omega) ?_); rw [qt.eq_def]; simp only; by_cases h1 : c = 34
   ·rw [if_pos h1]; exact Ev.pos ((byte_int c 34 (by decide)).2 h1) (Ev.now _)
   ·rw [if_neg h1]; refine Ev.neg (fun x => h1 ((byte_int c 34 (by decide)).1 x)) ?_; by_cases h2 : c = 10
    ·rw [if_pos h2]; exact Ev.pos ((byte_int c 10 (by decide)).2 h2) (Ev.now _)
    ·rw [if_neg h2]; refine Ev.neg (fun x => h2 ((byte_int c 10 (by decide)).1 x)) ?_; by_cases h3 : c = 92
     ·rw [if_pos h3]; refine Ev.pos ((byte_int c 92 (by decide)).2 h3) ?_; have hr := drop_next h
      cases r with
      | nil =>
       have := nil_drop hr; exact Ev.pos (by omega) (Ev.now _)
      | cons d r' =>
       obtain ⟨hlt', hb'⟩ := bt_drop hr; have hb' : bt s ((i : Int) + 1) = (d.toNat : Int) := hb'; rw [hb']; refine Ev.neg (by omega) (Ev.pos (by omega) (Ev.pos (by omega) ?_)); simp only; have hn := ih r' (i + 2) (by simp at hl; omega) (drop_next hr); rw [show ((i + 2 : Nat) : Int) = (i : Int) + 1 + 1 by omega] at hn; by_cases h4 : d = 110
       ·rw [if_pos (.inl h4), qe_map]; exact Ev.pos ((byte_int d 110 (by decide)).2 h4) hn
       ·refine Ev.neg (fun x => h4 ((byte_int d 110 (by decide)).1 x)) ?_; by_cases h5 : d = 34
        ·rw [if_pos (.inr (.inl h5)), qe_map]; exact Ev.pos ((byte_int d 34 (by decide)).2 h5) hn
        ·refine Ev.neg (fun x => h5 ((byte_int d 34 (by decide)).1 x)) ?_; by_cases h6 : d = 92
         ·rw [if_pos (.inr (.inr h6)), qe_map]; exact Ev.pos ((byte_int d 92 (by decide)).2 h6) hn
         ·rw [if_neg (fun x => x.elim h4 (fun x => x.elim h5 h6))]; exact Ev.neg (fun x => h6 ((byte_int d 92 (by decide)).1 x)) (Ev.now _)
     ·rw [if_neg h3, qe_map]; refine Ev.neg (fun x => h3 ((byte_int c 92 (by decide)).1 x)) ?_
      exact_mod_cast ih r (i + 1) (by omega) (drop_next h)
end Go.Proofs.Ytahcpappailjgaa.P

