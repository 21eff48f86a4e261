/- What the claim's row needs of the seat's texts, part 2: put together by a program of this session (declarations that no text of the claim names are left out). -/

import Derived.Test.YtahcpappailjgaaK1
namespace Go.Proofs.Ytahcpappailjgaa.P
open Go.RowKit Go.Proofs.YtahcpappailjgaaW.PrintWords Go.Proofs.YtahcpappailjgaaW.PrintLast Go.Proofs.YtahcpappailjgaaW.PrintMore
attribute [local go_sem] max2_int min2_int max_two min_two max_three min_three max_four min_four
set_option linter.unusedVariables false
set_option linter.unusedSimpArgs false

/-! ### cmp_isNaN_int: function 91 -/
def cmp_isNaN_int.f (a0 : Int) : Option (Bool) := some (a0 != a0)
set_option maxHeartbeats 8000000 in
set_option maxRecDepth 100000 in
theorem cmp_isNaN_int.calls (a0 : Int) (r : Bool) (w : World) (h : cmp_isNaN_int.f a0 = some r) :
  Calls Try.prog 91 #[.int .i64 a0] w fun e w' => e = .returned (.bool r) ∧ Drawn0 w w' := by
 have H : (some (a0 != a0)) = some r := h; clear h; obtain rfl := Option.some.inj H; go_enter Try.func91, Try.ntmps91; go_wp2; go_ret; exact ⟨zs, zX⟩

/-! ### cmp_Less_int: function 74 -/
def cmp_Less_int.f (a0 : Int) (a1 : Int) : Option (Bool) := (cmp_isNaN_int.f a0).bind fun t157 => (if t157 = true then ((cmp_isNaN_int.f a1).bind fun t158 => (if t158 = true then (some (decide (a0 < a1))) else (some true))) else (some (decide (a0 < a1))))
set_option maxHeartbeats 8000000 in
set_option maxRecDepth 100000 in
theorem cmp_Less_int.calls (a0 : Int) (a1 : Int) (r : Bool) (w : World) (h : cmp_Less_int.f a0 a1 = some r) :
  Calls Try.prog 74 #[.int .i64 a0, .int .i64 a1] w fun e w' => e = .returned (.bool r) ∧ Drawn0 w w' := by
 have H : ((cmp_isNaN_int.f a0).bind fun t157 => (if t157 = true then ((cmp_isNaN_int.f a1).bind fun t158 => (if t158 = true then (some (decide (a0 < a1))) else (some true))) else (some (decide (a0 < a1))))) = some r := h; clear h; replace H := zo H; obtain ⟨t157, A3, H⟩ := H; by_cases c4 : t157 = true
 ·subst c4; rw [if_pos rfl] at H; replace H := zo H; obtain ⟨t158, A5, H⟩ := H; by_cases c6 : t158 = true
  ·subst c6; rw [if_pos rfl] at H; obtain rfl := Option.some.inj H; go_enter Try.func74, Try.ntmps74
   go_wp2_with (first | ((with_reducible refine zG 91 rfl ?_); refine zg 6 Try.func91 ((cmp_isNaN_int.calls a0 true _ A3.out).mono ?_); rintro e w' ⟨rfl, ⟨nd, rfl⟩⟩; refine ⟨_, rfl, ?_⟩) | (go_at_call 91; (with_reducible refine (cmp_isNaN_int.calls a1 true _ A5.out).mono ?_); rintro e w' ⟨rfl, ⟨nd, rfl⟩⟩))
   go_ret; exact ⟨zs, zX⟩
  ·replace c6 := Bool.eq_false_iff.mpr c6; subst c6; replace H := zf H; obtain rfl := Option.some.inj H; go_enter Try.func74, Try.ntmps74
   go_wp2_with (first | ((with_reducible refine zG 91 rfl ?_); refine zg 6 Try.func91 ((cmp_isNaN_int.calls a0 true _ A3.out).mono ?_); rintro e w' ⟨rfl, ⟨nd, rfl⟩⟩; refine ⟨_, rfl, ?_⟩) | (go_at_call 91; (with_reducible refine (cmp_isNaN_int.calls a1 false _ A5.out).mono ?_); rintro e w' ⟨rfl, ⟨nd, rfl⟩⟩))
   go_ret; exact ⟨zs, zX⟩
 ·replace c4 := Bool.eq_false_iff.mpr c4; subst c4; replace H := zf H; obtain rfl := Option.some.inj H; go_enter Try.func74, Try.ntmps74
  go_wp2_with (first | ((with_reducible refine zG 91 rfl ?_); refine zg 6 Try.func91 ((cmp_isNaN_int.calls a0 false _ A3.out).mono ?_); rintro e w' ⟨rfl, ⟨nd, rfl⟩⟩; refine ⟨_, rfl, ?_⟩))
  go_ret; exact ⟨zs, zX⟩

/-! ### slices_isNaN_int: function 75 -/
def slices_isNaN_int.f (a0 : Int) : Option (Bool) := some (a0 != a0)
set_option maxHeartbeats 8000000 in
set_option maxRecDepth 100000 in
theorem slices_isNaN_int.calls (a0 : Int) (r : Bool) (w : World) (h : slices_isNaN_int.f a0 = some r) :
  Calls Try.prog 75 #[.int .i64 a0] w fun e w' => e = .returned (.bool r) ∧ Drawn0 w w' := by
 have H : (some (a0 != a0)) = some r := h; clear h; obtain rfl := Option.some.inj H; go_enter Try.func75, Try.ntmps75; go_wp2; go_ret; exact ⟨zs, zX⟩

/-! ### slices_BinarySearch_int_int: function 51 -/
def slices_BinarySearch_int_int.l0 : Nat → List Int → Int → Int → Int → Int → Option (Int × Bool)
 | 0, _, _, _, _, _ => none
 | k + 1, x0, x1, x6, x7, x8 => if x7 < x8 then (if 0 ≤ (wrap64 ((IntKind.u64.wrap (wrap64 (x7 + x8))) / 2)) then (if (wrap64 ((IntKind.u64.wrap (wrap64 (x7 + x8))) / 2)) < (x0.length : Int) then ((cmp_Less_int.f (rd x0 (wrap64 ((IntKind.u64.wrap (wrap64 (x7 + x8))) / 2))) x1).bind fun t160 => (if t160 = true then (slices_BinarySearch_int_int.l0 k x0 x1 x6 (wrap64 ((wrap64 ((IntKind.u64.wrap (wrap64 (x7 + x8))) / 2)) + 1)) x8) else (slices_BinarySearch_int_int.l0 k x0 x1 x6 x7 (wrap64 ((IntKind.u64.wrap (wrap64 (x7 + x8))) / 2))))) else (none)) else (none)) else (if x7 < x6 then (if 0 ≤ x7 then (if x7 < (x0.length : Int) then (if (rd x0 x7) = x1 then (some (x7, true)) else ((slices_isNaN_int.f (rd x0 x7)).bind fun t163 => (if t163 = true then ((slices_isNaN_int.f x1).bind fun t164 => (some (x7, t164))) else (some (x7, false))))) else (none)) else (none)) else (some (x7, false)))
def slices_BinarySearch_int_int.f (k : Nat) (l0 : List Int) (a1 : Int) : Option (Int × Bool) := slices_BinarySearch_int_int.l0 k l0 a1 (l0.length : Int) 0 (l0.length : Int)
theorem slices_BinarySearch_int_int.mono_l : ∀ k, (∀ y0 y1 y2 y3 y4, LeO (slices_BinarySearch_int_int.l0 k y0 y1 y2 y3 y4) (slices_BinarySearch_int_int.l0 (k + 1) y0 y1 y2 y3 y4))
 | 0 => fun _ _ _ _ _ r h => by simp [slices_BinarySearch_int_int.l0] at h
 | k + 1 => by
  have ih0 := slices_BinarySearch_int_int.mono_l k
  (intro y0 y1 y2 y3 y4; unfold slices_BinarySearch_int_int.l0); rotate_left
  all_goals repeat' first | (with_reducible exact ih0 _ _ _ _ _) | (with_reducible exact LeO.refl _) | (with_reducible exact LeO.none _) | (with_reducible refine LeO.ite ?_ ?_) | (with_reducible refine LeO.bind ?_ (fun _ => ?_)) | exact ih0 _ _ _ _ _ | exact LeO.none _ | refine LeO.ite ?_ ?_ | refine LeO.bind ?_ (fun _ => ?_)
theorem slices_BinarySearch_int_int.mono : ∀ a0 a1 k, LeO (slices_BinarySearch_int_int.f k a0 a1) (slices_BinarySearch_int_int.f (k + 1) a0 a1) := by
 intro a0 a1 k; have ih0 := slices_BinarySearch_int_int.mono_l k; unfold slices_BinarySearch_int_int.f
 repeat' first
   | (with_reducible exact ih0 _ _ _ _ _)
   | (with_reducible exact LeO.refl _)
   | (with_reducible exact LeO.none _)
   | (with_reducible refine LeO.ite ?_ ?_)
   | (with_reducible refine LeO.bind ?_ (fun _ => ?_))
   | exact ih0 _ _ _ _ _
   | exact LeO.none _
   | refine LeO.ite ?_ ?_
   | refine LeO.bind ?_ (fun _ => ?_)
set_option maxHeartbeats 8000000 in
set_option maxRecDepth 100000 in
theorem slices_BinarySearch_int_int.calls (k : Nat) (A0 : Option Addr) (c0 : Nat) (l0 : List Int) (a1 : Int) (r1 : Int) (r2 : Bool) (w : World) (hr0 : Kd.C (Kd.int .i64) w A0 l0.length l0) (hc0 : l0.length ≤ c0) (h : slices_BinarySearch_int_int.f k l0 a1 = some (r1, r2)) :
  Calls Try.prog 51 #[.slice A0 l0.length c0, .int .i64 a1] w fun e w' => e = .returned (.tuple #[.int .i64 r1, .bool r2]) ∧ Drawn0 w w' := by
 have HR0 := Aside0.mk hr0; have HC0 := Aside0.mk hc0; clear hr0 hc0; have H : (slices_BinarySearch_int_int.l0 k l0 a1 (l0.length : Int) 0 (l0.length : Int)) = some (r1, r2) := h; clear h; have H' := Aside0.mk H; clear H; go_enter Try.func51, Try.ntmps51; go_wp2
 go_loopg [7, 8] k (fun kq v7 v8 w' => ∃ (x7_1 : Int) (x8_1 : Int), v7 = .int .i64 x7_1 ∧ v8 = .int .i64 x8_1 ∧ Aside0 (slices_BinarySearch_int_int.l0 kq l0 a1 (l0.length : Int) x7_1 x8_1 = some (r1, r2)) ∧ Aside0 (kq ≤ k) ∧ Drawn0 w w')
 case atStart => exact ⟨(0), ((l0.length : Int)), zs, zs, H', ⟨Nat.le_refl _⟩, zX⟩
 case round =>
  clear H'; obtain ⟨x7_1, x8_1, rfl, rfl, HA, HK1, ⟨m1, rfl⟩⟩ := hrel
  cases gk with
  | zero => exact absurd HA.out (by simp [slices_BinarySearch_int_int.l0])
  | succ k1 =>
   have H := HA.out; clear HA; simp only [slices_BinarySearch_int_int.l0] at H; by_cases c3 : x7_1 < x8_1
   ·rw [if_pos c3] at H; have c3b0 := decide_eq_true c3; clear c3
    obtain ⟨ji4, hji4⟩ : ∃ j_ : Int, (wrap64 ((IntKind.u64.wrap (wrap64 (x7_1 + x8_1))) / 2)) = j_ := ⟨_, rfl⟩
    replace H : (if 0 ≤ (ji4) then (if (ji4) < (l0.length : Int) then ((cmp_Less_int.f (rd l0 (ji4)) a1).bind fun t160 => (if t160 = true then (slices_BinarySearch_int_int.l0 k1 l0 a1 (l0.length : Int) (wrap64 ((ji4) + 1)) x8_1) else (slices_BinarySearch_int_int.l0 k1 l0 a1 (l0.length : Int) x7_1 ji4))) else (none)) else (none)) = some (r1, r2) := by first | (rw [hji4] at H; exact H) | (simp only [hji4] at H ⊢; exact H)
    have hji4w : (IntKind.i64.wrap ((IntKind.u64.wrap (wrap64 (x7_1 + x8_1))) / 2)) = ji4 := (i64_w _).trans hji4; replace H := zi1 H; obtain ⟨c5b0, H⟩ := H; replace H := zi1 H; obtain ⟨c6b0, H⟩ := H; replace H := zo H; obtain ⟨t160, A7, H⟩ := H; by_cases c8 : t160 = true
    ·subst c8; rw [if_pos rfl] at H; have H' := Aside0.mk H; clear H; have p159 : 0 ≤ ((ji4) : Int) := zt; have q159 : (ji4) < (l0.length : Int) := zt; obtain ⟨ad159, e159, hx159_0⟩ := Kd.at_int HR0.out (ji4) p159 q159
     cases e159
     replace p159 := eq_true p159; replace q159 := eq_true q159
     go_wp2_with (first | ((with_reducible refine zG 74 rfl ?_); refine goesL_ (some 27) rfl rfl Try.func74 (by kernel_rfl) rfl #[.int .i64 (rd l0 (ji4)), .int .i64 a1] rfl (by (try simp only [List.map_toArray, List.map_cons, List.map_nil]); first | done | (simp only [hji4]; rfl) | rfl | (simp only [List.length_drop, List.length_take]; rfl)) ?_; (with_reducible refine (cmp_Less_int.calls (rd l0 (ji4)) a1 true _ A7.out).mono ?_); rintro e w' ⟨rfl, ⟨nd, rfl⟩⟩; refine ⟨_, rfl, ?_⟩))
     go_roundg k1
     case measure => have := HK1.out; omega
     case rel => exact ⟨(wrap64 ((ji4) + 1)), (x8_1), (by first | rfl | (simp; done) | (simp only [← hji4] <;> (first | rfl | simp)) | (simp [*]; done)), zs, H', zk, zX⟩
    ·replace c8 := Bool.eq_false_iff.mpr c8; subst c8; replace H := zf H; have H' := Aside0.mk H; clear H; have p159 : 0 ≤ ((ji4) : Int) := zt; have q159 : (ji4) < (l0.length : Int) := zt; obtain ⟨ad159, e159, hx159_0⟩ := Kd.at_int HR0.out (ji4) p159 q159
     cases e159
     replace p159 := eq_true p159; replace q159 := eq_true q159
     go_wp2_with (first | ((with_reducible refine zG 74 rfl ?_); refine goesL_ (some 27) rfl rfl Try.func74 (by kernel_rfl) rfl #[.int .i64 (rd l0 (ji4)), .int .i64 a1] rfl (by (try simp only [List.map_toArray, List.map_cons, List.map_nil]); first | done | (simp only [hji4]; rfl) | rfl | (simp only [List.length_drop, List.length_take]; rfl)) ?_; (with_reducible refine (cmp_Less_int.calls (rd l0 (ji4)) a1 false _ A7.out).mono ?_); rintro e w' ⟨rfl, ⟨nd, rfl⟩⟩; refine ⟨_, rfl, ?_⟩))
     go_roundg k1
     case measure => have := HK1.out; omega
     case rel => exact ⟨(x7_1), (ji4), zs, (by first | rfl | (simp; done) | (simp only [← hji4] <;> (first | rfl | simp)) | (simp [*]; done)), H', zk, zX⟩
   ·rw [if_neg c3] at H; have c3b0 := decide_eq_false c3; clear c3; by_cases c9 : x7_1 < (l0.length : Int)
    ·rw [if_pos c9] at H; have c9b0 := decide_eq_true c9; clear c9; replace H := zi1 H; obtain ⟨c10b0, H⟩ := H; replace H := zi1 H; obtain ⟨c11b0, H⟩ := H; by_cases c12 : (rd l0 x7_1) = a1
     ·rw [if_pos c12] at H; have c12b0 : ((rd l0 x7_1) == a1) = true := beq_iff_eq.mpr c12; have c12b1 : ((rd l0 x7_1) != a1) = false := bne_eq_false_iff_eq.mpr c12; clear c12; simp only [Option.some.injEq, Prod.mk.injEq] at H; obtain ⟨rfl, rfl⟩ := H; have p161 : 0 ≤ (x7_1 : Int) := zt; have q161 : x7_1 < (l0.length : Int) := zt; obtain ⟨ad161, e161, hx161_0⟩ := Kd.at_int HR0.out x7_1 p161 q161
      cases e161
      replace p161 := eq_true p161; replace q161 := eq_true q161; go_wp2
      go_ret2
      exact ⟨zs, zX⟩
     ·rw [if_neg c12] at H; have c12b0 : ((rd l0 x7_1) == a1) = false := beq_eq_false_iff_ne.mpr c12; have c12b1 : ((rd l0 x7_1) != a1) = true := bne_iff_ne.mpr c12; replace H := zo H; obtain ⟨t163, A13, H⟩ := H; by_cases c14 : t163 = true
      ·subst c14; rw [if_pos rfl] at H; replace H := zo H; obtain ⟨t164, A15, H⟩ := H; simp only [Option.some.injEq, Prod.mk.injEq] at H; obtain ⟨rfl, rfl⟩ := H; have p161 : 0 ≤ (x7_1 : Int) := zt; have q161 : x7_1 < (l0.length : Int) := zt; obtain ⟨ad161, e161, hx161_0⟩ := Kd.at_int HR0.out x7_1 p161 q161
       cases e161
       replace p161 := eq_true p161; replace q161 := eq_true q161; have p162 : 0 ≤ (x7_1 : Int) := zt; have q162 : x7_1 < (l0.length : Int) := zt; obtain ⟨ad162, e162, hx162_0⟩ := Kd.at_int HR0.out x7_1 p162 q162
       obtain rfl : ad161 = ad162 := (by injection e162)
       replace p162 := eq_true p162; replace q162 := eq_true q162
       go_wp2_with (first | (go_at_call 75; (with_reducible refine (slices_isNaN_int.calls (rd l0 x7_1) true _ A13.out).mono ?_); rintro e w' ⟨rfl, ⟨nd, rfl⟩⟩) | (go_at_call 75; (with_reducible refine (slices_isNaN_int.calls a1 t164 _ A15.out).mono ?_); rintro e w' ⟨rfl, ⟨nd, rfl⟩⟩))
       go_ret2
       exact ⟨zs, zX⟩
      ·replace c14 := Bool.eq_false_iff.mpr c14; subst c14; replace H := zf H; simp only [Option.some.injEq, Prod.mk.injEq] at H; obtain ⟨rfl, rfl⟩ := H; have p161 : 0 ≤ (x7_1 : Int) := zt; have q161 : x7_1 < (l0.length : Int) := zt; obtain ⟨ad161, e161, hx161_0⟩ := Kd.at_int HR0.out x7_1 p161 q161
       cases e161
       replace p161 := eq_true p161; replace q161 := eq_true q161; have p162 : 0 ≤ (x7_1 : Int) := zt; have q162 : x7_1 < (l0.length : Int) := zt; obtain ⟨ad162, e162, hx162_0⟩ := Kd.at_int HR0.out x7_1 p162 q162
       obtain rfl : ad161 = ad162 := (by injection e162)
       replace p162 := eq_true p162; replace q162 := eq_true q162
       go_wp2_with (first | (go_at_call 75; (with_reducible refine (slices_isNaN_int.calls (rd l0 x7_1) false _ A13.out).mono ?_); rintro e w' ⟨rfl, ⟨nd, rfl⟩⟩))
       go_ret2
       exact ⟨zs, zX⟩
    ·rw [if_neg c9] at H; have c9b0 := decide_eq_false c9; clear c9; simp only [Option.some.injEq, Prod.mk.injEq] at H; obtain ⟨rfl, rfl⟩ := H; go_wp2
     go_ret2
     exact ⟨zs, zX⟩

/-! ### relex_holding: function 34 -/
def relex_holding.f (k : Nat) (l0 : List Int) (a1 : Int) : Option (Int) := (slices_BinarySearch_int_int.f k l0 a1).bind fun bt165 => (if bt165.2 = true then (some bt165.1) else (some (wrap64 (bt165.1 - 1))))
theorem relex_holding.mono : ∀ a0 a1 k, LeO (relex_holding.f k a0 a1) (relex_holding.f (k + 1) a0 a1) := by
 intro a0 a1 k; unfold relex_holding.f
 repeat' first
   | (with_reducible exact slices_BinarySearch_int_int.mono _ _ _)
   | (with_reducible exact LeO.refl _)
   | (with_reducible exact LeO.none _)
   | (with_reducible refine LeO.ite ?_ ?_)
   | (with_reducible refine LeO.bind ?_ (fun _ => ?_))
   | exact slices_BinarySearch_int_int.mono _ _ _
   | exact LeO.none _
   | refine LeO.ite ?_ ?_
   | refine LeO.bind ?_ (fun _ => ?_)
set_option maxHeartbeats 8000000 in
set_option maxRecDepth 100000 in
theorem relex_holding.calls (k : Nat) (A0 : Option Addr) (c0 : Nat) (l0 : List Int) (a1 : Int) (r : Int) (w : World) (hr0 : Kd.C (Kd.int .i64) w A0 l0.length l0) (hc0 : l0.length ≤ c0) (h : relex_holding.f k l0 a1 = some r) :
  Calls Try.prog 34 #[.slice A0 l0.length c0, .int .i64 a1] w fun e w' => e = .returned (.int .i64 r) ∧ Drawn0 w w' := by
 have HR0 := Aside0.mk hr0; have HC0 := Aside0.mk hc0; clear hr0 hc0; have H : ((slices_BinarySearch_int_int.f k l0 a1).bind fun bt165 => (if bt165.2 = true then (some bt165.1) else (some (wrap64 (bt165.1 - 1))))) = some r := h; clear h; replace H := Option.bind_eq_some_iff.mp H; obtain ⟨⟨t165, t166⟩, A30, H⟩ := H; replace H : (if t166 = true then (some t165) else (some (wrap64 (t165 - 1)))) = some r := H; have A3 := Aside0.mk A30; clear A30; by_cases c4 : t166 = true
 ·subst c4; rw [if_pos rfl] at H; obtain rfl := Option.some.inj H; go_enter Try.func34, Try.ntmps34
  go_wp2_with (first | ((with_reducible refine zG 51 rfl ?_); refine zg 10 Try.func51 ((slices_BinarySearch_int_int.calls k _ _ l0 a1 t165 true _ ?side1 ?side2 A3.out).mono ?_); (case side1 => exact zE HR0); (case side2 => exact HC0.out); rintro e w' ⟨rfl, ⟨nd, rfl⟩⟩; refine ⟨_, rfl, ?_⟩))
  go_ret; exact ⟨zs, zX⟩
 ·replace c4 := Bool.eq_false_iff.mpr c4; subst c4; replace H := zf H; obtain rfl := Option.some.inj H; go_enter Try.func34, Try.ntmps34
  go_wp2_with (first | ((with_reducible refine zG 51 rfl ?_); refine zg 10 Try.func51 ((slices_BinarySearch_int_int.calls k _ _ l0 a1 t165 false _ ?side1 ?side2 A3.out).mono ?_); (case side1 => exact zE HR0); (case side2 => exact HC0.out); rintro e w' ⟨rfl, ⟨nd, rfl⟩⟩; refine ⟨_, rfl, ?_⟩))
  go_ret; exact ⟨zs, zX⟩

end Go.Proofs.Ytahcpappailjgaa.P

namespace Go.Proofs.Ytahcpappailjgaa.P
open Go.RowKit Go.Proofs.YtahcpappailjgaaW.PrintWords Go.Proofs.YtahcpappailjgaaW.PrintLast Go.Proofs.YtahcpappailjgaaW.PrintMore
attribute [local go_sem] max2_int min2_int max_two min_two max_three min_three max_four min_four
set_option linter.unusedVariables false
set_option linter.unusedSimpArgs false

def api_Token_36.f (l0 : List (List (S59))) : Option (List (S59)) := if l0.length ≤ 1000 ∧ l0.flatten.length ≤ 1000000000 then some l0.flatten else none
set_option maxHeartbeats 8000000 in
set_option maxRecDepth 100000 in
theorem api_Token_36.grow (n : Nat) (hn : n ≤ 1000000000) (w : World) : Calls Try.prog 53 #[.slice none 0 0, .int .i64 n] w fun e w' =>
  ∃ v, e = .returned v ∧ Kd.R k59 59 w' w.heap.size (fun _ => True) v [] ∧ Below w.heap.size w w' := by
 have hu := Try.underlying22
 have h1 : ¬ ((n : Int) < 0) := (by omega)
 have h2 : wrap64 ((0 : Int) - (0 : Int)) = 0 := (by unfold wrap64; omega)
 have h3 : wrap64 (n : Int) = (n : Int) := (by unfold wrap64; omega)
 by_cases h0 : n = 0
 ·subst h0; go_enter Try.func53, Try.ntmps53; go_wp2; go_ret; exact ⟨_, rfl, Kd.R_nil _ _ _ _ _, Below.refl _ _⟩
 ·obtain ⟨i0, hi, hzz⟩ := Option.map_eq_some_iff.1 (show (Try.prog.info? 59).map (fun i => (i.zero, i.size, i.bytes)) = some (some (.agg #[.int .i64 0, .string ⟨#[]⟩]), 2, 24) by kernel_rfl); simp only [Prod.mk.injEq] at hzz; obtain ⟨hz0, hz1, hz2⟩ := hzz
  have h4 : (n : Int) > 0 := (by omega)
  have hrz : ∀ ty, (Builtin.append_ #[22, 3] ty #[.slice none 0 0, .int .i64 (n : Int)]).run Try.prog w =
    .ok (.slice (some ⟨w.heap.size, 0, none⟩) n (grownCap w n 0 59)) (w.drew.alloc (.cells (#[] ++ Builtin.zeroCells (Value.cells (.agg #[.int .i64 0, .string ⟨#[]⟩])) n ++ Builtin.zeroCells (Value.cells (.agg #[.int .i64 0, .string ⟨#[]⟩])) (grownCap w n 0 59 - n)) 59)) := fun ty => by
   have h := Lib.run_append_grow_zeros (P := Try.prog) w 22 3 ty 59 i0 (.agg #[.int .i64 0, .string ⟨#[]⟩]) .i64 .i64 hu Try.underlying3 hi hz0 none 0 0 [] (run_firstCells_none w.drew i0.size 0 0 0) n (by omega) (by omega) (by omega) (by omega) (by rw [hz2]; omega) (growslice_fits (by omega) (by rw [hz2]; omega))
   simpa using h
  have hG1 : n ≤ grownCap w n 0 59 := grownCap_ge w _ _ _; have hG2 := grownCap_le_maxLen w n 0 59 (by unfold maxLen; omega); generalize grownCap w n 0 59 = G at hrz hG1 hG2
  have hG3 : G ≤ 9223372036854775807 := (by unfold maxLen at hG2; omega)
  have hcut := fun W : World => cut_to (P := Try.prog) 22 59 .i64 hu hi (some ⟨w.heap.size, 0, none⟩) n G 0 (by omega) (by omega) hG1 W
  have hR : Kd.R k59 59 (w.alloc (.cells (Builtin.zeroCells #[.int .i64 0, .string ⟨#[]⟩] n ++ Builtin.zeroCells #[.int .i64 0, .string ⟨#[]⟩] (G - n)) 59)).drew w.heap.size (fun _ => True) (.slice (some ⟨w.heap.size, 0, none⟩) 0 G) [] := by
   refine Kd.R_drew ⟨fun _ _ => trivial, [], ?_, Reps.none _ _⟩; exact World.ownsRow_made (size := 2) w _ G (Nat.le_refl _) hG2 (by rw [Array.size_append, size_zeroCells, size_zeroCells]; show n * 2 + (G - n) * 2 = G * 2; omega)
  have HR := Aside0.mk hR; have HB := Aside0.mk (show Below w.heap.size w (w.alloc (.cells (Builtin.zeroCells #[.int .i64 0, .string ⟨#[]⟩] n ++ Builtin.zeroCells #[.int .i64 0, .string ⟨#[]⟩] (G - n)) 59)).drew from below_drew (below_alloc (Below.refl _ _) _)); clear hR hz0 hz1 hz2 hi hG2; go_enter Try.func53, Try.ntmps53
  go_wp2_with (at_builtin; refine Lib.wpList_append_run _ rfl _ _ _ _ rfl _ _ rfl rfl _ _ (hrz _) ?_)
  all_goals (go_ret; exact ⟨_, rfl, HR.out, HB.out⟩)
def api_Token_36.tot (l : List (List (S59))) : Nat := l.flatten.length
theorem api_Token_36.tot_take (l : List (List (S59))) (i : Nat) (h : i < l.length) : api_Token_36.tot (l.take (i + 1)) = api_Token_36.tot (l.take i) + (l[i]).length := by
 unfold api_Token_36.tot; rw [List.take_succ_eq_append_getElem h, List.flatten_append, List.length_append]
 simp
theorem api_Token_36.tot_le (l : List (List (S59))) (i : Nat) : api_Token_36.tot (l.take i) ≤ l.flatten.length := by
 have : l.flatten.length = api_Token_36.tot (l.take i) + (l.drop i).flatten.length := by
  unfold api_Token_36.tot
  conv => lhs; rw [← List.take_append_drop i l]
  rw [List.flatten_append, List.length_append]
 omega
theorem api_Token_36.row {w : World} {A0 : Option Addr} {l0 : List (List (S59))} (h : Kd.C (Kd.slice 59 k59) w A0 l0.length l0) (i : Nat) (hi : i < l0.length) :
  ∃ ad A c, A0 = some ad ∧ w.cell? (ad.add i) = some (.slice A (l0[i]).length c) ∧ (l0[i]).length ≤ c ∧ Kd.C k59 w A (l0[i]).length l0[i] := by
 obtain ⟨ad, e, hj⟩ := h.2.2 (by omega); obtain ⟨cs, _, hk, hcell⟩ := hj i l0[i] (List.getElem?_eq_getElem hi); obtain ⟨A, c, rfl, hlc, hC⟩ := hk; refine ⟨ad, A, c, e, ?_, hlc, hC⟩; have := hcell 0 _ rfl
 simpa [Kd.slice] using this
set_option maxHeartbeats 8000000 in
set_option maxRecDepth 100000 in
theorem api_Token_36.calls (A0 : Option Addr) (c0 : Nat) (l0 : List (List (S59))) (r : List (S59)) (w : World) (hr0 : Kd.C (Kd.slice 59 k59) w A0 l0.length l0) (hc0 : l0.length ≤ c0) (h : api_Token_36.f l0 = some r) :
  Calls Try.prog 36 #[.slice A0 l0.length c0] w fun e w' => ∃ v0_ : Value, e = .returned v0_ ∧ Kd.R k59 59 w' w.heap.size (fun _ => True) v0_ r ∧ Below w.heap.size w w' := by
 have hl : (l0.length ≤ 1000 ∧ l0.flatten.length ≤ 1000000000) ∧ l0.flatten = r := by
  unfold api_Token_36.f at h; by_cases q : l0.length ≤ 1000 ∧ l0.flatten.length ≤ 1000000000
  ·rw [if_pos q] at h; exact ⟨q, Option.some.inj h⟩
  ·rw [if_neg q] at h; cases h
 clear h; obtain ⟨⟨hl1, hl2⟩, rfl⟩ := hl; have HL1 := Aside0.mk hl1; have HL2 := Aside0.mk hl2; have HC := Aside0.mk hr0; have hu := Try.underlying22; have hu2 := Try.underlying95; clear hr0 hl1 hl2; go_enter Try.func36, Try.ntmps36; go_wp2_with fail
 go_loopg [3, 11] l0.length (fun kq v3 v11 w' => ∃ (i : Nat), v11 = .int .i64 (i : Int) ∧ v3 = .int .i64 (api_Token_36.tot (l0.take i) : Int) ∧ Aside0 (i + kq = l0.length) ∧ w' = w)
 case atStart => exact ⟨0, rfl, rfl, ⟨by omega⟩, rfl⟩
 case round =>
  obtain ⟨i, rfl, rfl, HK, hw⟩ := hrel; replace hw := hw.symm; subst hw; have hmax : l0.length ≤ 1000 := HL1.out; by_cases hlt : i < l0.length
  ·obtain ⟨ad, A, c, e, hx, hlc, hC⟩ := api_Token_36.row HC.out i hlt; have hd : decide ((i : Int) < (l0.length : Int)) = true := decide_eq_true (by omega); subst e; have ht := api_Token_36.tot_take l0 i hlt; have ht2 := api_Token_36.tot_le l0 (i + 1)
   have hs : wrap64 ((api_Token_36.tot (l0.take i) : Int) + ((l0[i]).length : Int)) = (api_Token_36.tot (l0.take (i + 1)) : Int) := by
    have := HL2.out; rw [ht]; unfold wrap64; omega
   have hneg : decide ((api_Token_36.tot (l0.take (i + 1)) : Int) < 0) = false := decide_eq_false (by omega); clear ht ht2 hC hlc; have HK' := HK
   cases gk with
   | zero => exact absurd hlt (by have := HK.out; omega)
   | succ kq' =>
   go_wp2_with fail
   go_roundg kq'
   case measure => omega
   case rel => exact ⟨i + 1, by go_num, by rw [hs], ⟨by have := HK.out; omega⟩, rfl⟩
  ·have hd : decide ((i : Int) < (l0.length : Int)) = false := decide_eq_false (by omega); have hd2 : decide (i < l0.length) = false := decide_eq_false hlt; have hi : l0.take i = l0 := List.take_of_length_le (by omega); have HB0 := Aside0.mk (Below.refl w.heap.size w); rw [hi]; clear hi hlt HK
   go_wp2_with (go_at_call 53; refine (api_Token_36.grow (api_Token_36.tot l0) HL2.out _).mono ?_; rintro e w1 ⟨v1, rfl, hr1, hb1⟩; have HR1 := Aside0.mk hr1; have HB1 := Aside0.mk hb1; clear hr1 hb1)
   go_loopg [6, 27] l0.length (fun kq v6 v27 w' => ∃ (i : Nat), v27 = .int .i64 (i : Int) ∧ Aside0 (i + kq = l0.length) ∧ Aside0 (Kd.R k59 59 w' w.heap.size (fun _ => True) v6 (l0.take i).flatten) ∧ Aside0 (Below w.heap.size w w'))
   case atStart => exact ⟨0, rfl, ⟨by omega⟩, HR1, HB1⟩
   case round =>
    clear HR1 HB1; obtain ⟨i, rfl, HK, HR, HB⟩ := hrel; have hmax : l0.length ≤ 1000 := HL1.out; by_cases hlt : i < l0.length
    ·obtain ⟨ad, A, c, e, hx, hlc, hC⟩ := api_Token_36.row HC.out i hlt; have hd : decide ((i : Int) < (l0.length : Int)) = true := decide_eq_true (by omega); subst e; replace hx := (HB.out.cell (World.block_lt_of_cell? _ _ hx)).trans hx; have HC2 := Aside0.mk (Kd.C_below hC HB.out); have ht := api_Token_36.tot_take l0 i hlt; have ht2 := api_Token_36.tot_le l0 (i + 1); have HLN := Aside0.mk (show ((l0.take i).flatten.length + (l0[i]).length) * 24 ≤ 140737488355328 by have := HL2.out; unfold api_Token_36.tot at ht ht2; omega); have HF := Aside0.mk (show (l0.take (i + 1)).flatten = (l0.take i).flatten ++ l0[i] by rw [List.take_succ_eq_append_getElem hlt, List.flatten_append]; simp); have hinfo := Aside0.mk (show (Try.prog.info? 59).map (fun i => (i.zero, i.size, i.bytes)) = some (some (.agg #[.int .i64 0, .string ⟨#[]⟩]), 2, 24) by kernel_rfl); clear ht ht2 hC hlc; generalize (l0.take i).flatten = acc at *; generalize l0[i] = row at *
     cases gk with
     | zero => exact absurd hlt (by have := HK.out; omega)
     | succ kq' =>
     go_wp2_with (at_builtin; refine Kd.R_append_rows k59 (w0 := w) w.heap.size rfl (.tmp 31) (.tmp 32) 22 59 (.agg #[.int .i64 0, .string ⟨#[]⟩]) 24 rfl hu hinfo.out rfl (show 0 < 2 by decide) (by omega) _ acc row A row.length c (fun _ => True) (fun _ => False) rfl rfl HR.out HC2.out (fun x cs h => h) (fun _ hk => hk.elim) (fun _ _ => trivial) HB.out HB.out.size HLN.out ?_; intro v2 w2 hr2 hb2 hg2 hat2; have HR2 := Aside0.mk hr2; have HB2 := Aside0.mk hb2; clear hr2 hb2 hg2 hat2)
     go_roundg kq'
     case measure => omega
     case rel => exact ⟨i + 1, by go_num, ⟨by have := HK.out; omega⟩, ⟨by rw [HF.out]; exact HR2.out⟩, HB2⟩
    ·have hd : decide ((i : Int) < (l0.length : Int)) = false := decide_eq_false (by omega); have hd2 : decide (i < l0.length) = false := decide_eq_false hlt; have hi : l0.take i = l0 := List.take_of_length_le (by omega); rw [hi] at HR; go_wp2_with fail; go_ret; exact ⟨_, rfl, HR.out, HB.out⟩

end Go.Proofs.Ytahcpappailjgaa.P

namespace Go.Proofs.Ytahcpappailjgaa.P
open Go.RowKit Go.Proofs.YtahcpappailjgaaW.PrintWords Go.Proofs.YtahcpappailjgaaW.PrintLast Go.Proofs.YtahcpappailjgaaW.PrintMore
attribute [local go_sem] max2_int min2_int max_two min_two max_three min_three max_four min_four
set_option linter.unusedVariables false
set_option linter.unusedSimpArgs false

/-! ### relex_Relex: function 12 -/
def relex_Relex.j0 : Nat → List (S59) → List (S39) → ByteArray → ByteArray → List Int → Int → Option ((List (S59)) × Int × Int × Int)
 | 0, _, _, _, _, _, _ => none
 | k + 1, x0, x1, x8, x10, x11, x12 => if 0 ≤ (wrap64 ((x1.length : Int) - 1)) then (if (wrap64 ((x1.length : Int) - 1)) < (x1.length : Int) then (if 0 ≤ ((rd_T39 x1 (wrap64 ((x1.length : Int) - 1))).f1) then (if ((rd_T39 x1 (wrap64 ((x1.length : Int) - 1))).f1) ≤ (x8.size : Int) then ((strings_IndexByte.f (x8.extract (((rd_T39 x1 (wrap64 ((x1.length : Int) - 1))).f1) : Int).toNat x8.size) 10).bind fun t181 => (if t181 ≥ 0 then ((relex_holding.f k x11 (wrap64 (((rd_T39 x1 (wrap64 ((x1.length : Int) - 1))).f1) + t181))).bind fun t182 => (if 0 ≤ x12 then (if x12 < (x11.length : Int) then (if 0 ≤ (wrap64 (t182 + 1)) then (if (wrap64 (t182 + 1)) < (x11.length : Int) then (if 0 ≤ (rd x11 x12) then (if (rd x11 x12) ≤ (wrap64 ((x10.size : Int) - (wrap64 ((x8.size : Int) - (rd x11 (wrap64 (t182 + 1))))))) then (if (wrap64 ((x10.size : Int) - (wrap64 ((x8.size : Int) - (rd x11 (wrap64 (t182 + 1))))))) ≤ (x10.size : Int) then ((token_Lex.f k (x10.extract ((rd x11 x12) : Int).toNat ((wrap64 ((x10.size : Int) - (wrap64 ((x8.size : Int) - (rd x11 (wrap64 (t182 + 1))))))) : Int).toNat)).bind fun bt185 => (if x12 ≤ (x0.length : Int) then (if (wrap64 (t182 + 1)) ≤ (x0.length : Int) then ((api_Token_36.f (([(x0.take (x12 : Int).toNat), bt185.1, (x0.drop ((wrap64 (t182 + 1)) : Int).toNat)] : List (List (S59))))).bind fun t202 => (some (t202, x12, wrap64 ((x0.length : Int) - (wrap64 (t182 + 1))), 0))) else (none)) else (none))) else (none)) else (none)) else (none)) else (none)) else (none)) else (none)) else (none))) else (if 0 ≤ x12 then (if x12 < (x11.length : Int) then (if 0 ≤ (x0.length : Int) then (if (x0.length : Int) < (x11.length : Int) then (if 0 ≤ (rd x11 x12) then (if (rd x11 x12) ≤ (wrap64 ((x10.size : Int) - (wrap64 ((x8.size : Int) - (rd x11 (x0.length : Int)))))) then (if (wrap64 ((x10.size : Int) - (wrap64 ((x8.size : Int) - (rd x11 (x0.length : Int)))))) ≤ (x10.size : Int) then ((token_Lex.f k (x10.extract ((rd x11 x12) : Int).toNat ((wrap64 ((x10.size : Int) - (wrap64 ((x8.size : Int) - (rd x11 (x0.length : Int)))))) : Int).toNat)).bind fun bt207 => (if x12 ≤ (x0.length : Int) then (if (x0.length : Int) ≤ (x0.length : Int) then ((api_Token_36.f (([(x0.take (x12 : Int).toNat), bt207.1, (x0.drop ((x0.length : Int) : Int).toNat)] : List (List (S59))))).bind fun t224 => (some (t224, x12, wrap64 ((x0.length : Int) - (x0.length : Int)), 0))) else (none)) else (none))) else (none)) else (none)) else (none)) else (none)) else (none)) else (none)) else (none)))) else (none)) else (none)) else (none)) else (none)
def relex_Relex.f (k : Nat) (l0 : List (S59)) (l1 : List (S39)) : Option ((List (S59)) × Int × Int × Int) := (token_Text.f k l0).bind fun bt167 => (if bt167.2 = 0 then ((rope_Apply.f k bt167.1 l1).bind fun bt169 => (if bt169.2 = 0 then (if (l1.length : Int) = 0 then ((api_Token_31.f l0).bind fun t171 => (some (t171, (l0.length : Int), 0, 0))) else ((relex_ends.f k l0).bind fun t174 => (if 0 < (l1.length : Int) then (if 0 ≤ ((rd_T39 l1 0).f0) then (if ((rd_T39 l1 0).f0) ≤ (bt167.1.size : Int) then ((strings_LastIndexByte.f (bt167.1.extract 0 (((rd_T39 l1 0).f0) : Int).toNat) 10).bind fun t178 => (if t178 ≥ 0 then ((relex_holding.f k t174 t178).bind fun t179 => (relex_Relex.j0 k l0 l1 bt167.1 bt169.1 t174 t179)) else (relex_Relex.j0 k l0 l1 bt167.1 bt169.1 t174 0))) else (none)) else (none)) else (none)))) else (some (([] : List (S59)), 0, 0, bt169.2)))) else (some (([] : List (S59)), 0, 0, bt167.2)))
theorem relex_Relex.mono_l : ∀ k, (∀ y0 y1 y2 y3 y4 y5, LeO (relex_Relex.j0 k y0 y1 y2 y3 y4 y5) (relex_Relex.j0 (k + 1) y0 y1 y2 y3 y4 y5))
 | 0 => fun _ _ _ _ _ _ r h => by simp [relex_Relex.j0] at h
 | k + 1 => by
  have ih0 := relex_Relex.mono_l k
  (intro y0 y1 y2 y3 y4 y5; unfold relex_Relex.j0); rotate_left
  all_goals repeat' first | (with_reducible exact ih0 _ _ _ _ _ _) | (with_reducible exact relex_ends.mono _ _) | (with_reducible exact relex_holding.mono _ _ _) | (with_reducible exact rope_Apply.mono _ _ _) | (with_reducible exact token_Lex.mono _ _) | (with_reducible exact token_Text.mono _ _) | (with_reducible exact LeO.refl _) | (with_reducible exact LeO.none _) | (with_reducible refine LeO.ite ?_ ?_) | (with_reducible refine LeO.bind ?_ (fun _ => ?_)) | exact ih0 _ _ _ _ _ _ | exact relex_ends.mono _ _ | exact relex_holding.mono _ _ _ | exact rope_Apply.mono _ _ _ | exact token_Lex.mono _ _ | exact token_Text.mono _ _ | exact LeO.none _ | refine LeO.ite ?_ ?_ | refine LeO.bind ?_ (fun _ => ?_)
theorem relex_Relex.mono : ∀ a0 a1 k, LeO (relex_Relex.f k a0 a1) (relex_Relex.f (k + 1) a0 a1) := by
 intro a0 a1 k; have ih0 := relex_Relex.mono_l k; unfold relex_Relex.f
 repeat' first
   | (with_reducible exact ih0 _ _ _ _ _ _)
   | (with_reducible exact relex_ends.mono _ _)
   | (with_reducible exact relex_holding.mono _ _ _)
   | (with_reducible exact rope_Apply.mono _ _ _)
   | (with_reducible exact token_Lex.mono _ _)
   | (with_reducible exact token_Text.mono _ _)
   | (with_reducible exact LeO.refl _)
   | (with_reducible exact LeO.none _)
   | (with_reducible refine LeO.ite ?_ ?_)
   | (with_reducible refine LeO.bind ?_ (fun _ => ?_))
   | exact ih0 _ _ _ _ _ _
   | exact relex_ends.mono _ _
   | exact relex_holding.mono _ _ _
   | exact rope_Apply.mono _ _ _
   | exact token_Lex.mono _ _
   | exact token_Text.mono _ _
   | exact LeO.none _
   | refine LeO.ite ?_ ?_
   | refine LeO.bind ?_ (fun _ => ?_)
def relex_Relex.T19 : Bool × List (List Nat × List Nat) := (true, [([], []), ([], []), ([0, 1], [0, 1]), ([2], [2]), ([], []), ([4], [4]), ([], []), ([6], [6]), ([], []), ([], []), ([8, 9], [8, 9]), ([10], [10]), ([7, 11], [7, 11]), ([5, 12], [5, 12]), ([3, 0, 1, 2, 3], [3]), ([13, 14, 0, 1, 2, 3, 4, 5, 6, 7, 8, 9, 10, 11, 12, 13, 14], [13])])
def relex_Relex.B19 : List Nat := [0, 0, 3, 7, 0, 16, 0, 64, 0, 0, 768, 1792, 4032, 8176, 15, 32767]
theorem relex_Relex.tab19 : rtab .any (opsOf Try.f12 19) = relex_Relex.T19 := by kernel_rfl
theorem relex_Relex.bits19 : waitsOk relex_Relex.T19.2 relex_Relex.B19 = true := by kernel_rfl
def relex_Relex.T21 : Bool × List (List Nat × List Nat) := (true, [([], []), ([], []), ([0, 1], [0, 1]), ([], []), ([], []), ([], []), ([4, 5], [4, 5]), ([2, 3, 6], [2, 3, 6]), ([7], [7]), ([], []), ([], []), ([10], [10]), ([], []), ([11, 12], [11, 12]), ([8, 8, 0, 1, 2, 3, 4, 5, 6, 7, 8], [8]), ([9, 14, 0, 1, 2, 3, 4, 5, 6, 7, 8, 9, 14], [9]), ([13, 15, 0, 1, 2, 3, 4, 5, 6, 7, 8, 9, 10, 11, 12, 13, 14, 15], [13]), ([16, 0, 1, 2, 3, 4, 5, 6, 7, 8, 9, 10, 11, 12, 13, 14, 15, 16], [])])
def relex_Relex.B21 : List Nat := [0, 0, 3, 0, 0, 0, 48, 127, 255, 0, 0, 1024, 0, 7168, 511, 17407, 65535, 131071]
theorem relex_Relex.tab21 : rtab .any (opsOf Try.f12 21) = relex_Relex.T21 := by kernel_rfl
theorem relex_Relex.bits21 : waitsOk relex_Relex.T21.2 relex_Relex.B21 = true := by kernel_rfl
set_option maxHeartbeats 8000000 in
set_option maxRecDepth 100000 in
theorem relex_Relex.calls (k : Nat) (P0_ : Nat → Prop) (A0 : Option Addr) (c0 : Nat) (l0 : List (S59)) (A1 : Option Addr) (c1 : Nat) (l1 : List (S39)) (r1 : List (S59)) (r2 : Int) (r3 : Int) (r4 : Int) (w : World) (hs0 : Kd.V k59 59 w w.heap.size (fun k_ => P0_ k_) (.slice A0 l0.length c0) l0) (hr1 : Kd.C k39 w A1 l1.length l1) (hc1 : l1.length ≤ c1) (h : relex_Relex.f k l0 l1 = some (r1, r2, r3, r4)) :
  Calls Try.prog 12 #[.slice A0 l0.length c0, .slice A1 l1.length c1] w fun e w' => ∃ v0_ : Value, e = .returned (.tuple #[v0_, .int .i64 r2, .int .i64 r3, .int .i64 r4]) ∧ Kd.R k59 59 w' w.heap.size (fun k_ => (w.heap.size ≤ k_)) v0_ r1 ∧ Below w.heap.size w w' := by
 have HO0 := Aside0.mk (show Kd.V k59 59 w w.heap.size (fun k_ => (P0_ k_ ∨ w.heap.size ≤ k_)) (.slice A0 l0.length c0) l0 from Kd.V_mono hs0 (fun k_ hk => .inl hk)); have HR1 := Aside0.mk hr1; have HC1 := Aside0.mk hc1; clear hr1 hc1; have HB := Aside0.mk (Below.refl w.heap.size w); have H : ((token_Text.f k l0).bind fun bt167 => (if bt167.2 = 0 then ((rope_Apply.f k bt167.1 l1).bind fun bt169 => (if bt169.2 = 0 then (if (l1.length : Int) = 0 then ((api_Token_31.f l0).bind fun t171 => (some (t171, (l0.length : Int), 0, 0))) else ((relex_ends.f k l0).bind fun t174 => (if 0 < (l1.length : Int) then (if 0 ≤ ((rd_T39 l1 0).f0) then (if ((rd_T39 l1 0).f0) ≤ (bt167.1.size : Int) then ((strings_LastIndexByte.f (bt167.1.extract 0 (((rd_T39 l1 0).f0) : Int).toNat) 10).bind fun t178 => (if t178 ≥ 0 then ((relex_holding.f k t174 t178).bind fun t179 => (relex_Relex.j0 k l0 l1 bt167.1 bt169.1 t174 t179)) else (relex_Relex.j0 k l0 l1 bt167.1 bt169.1 t174 0))) else (none)) else (none)) else (none)))) else (some (([] : List (S59)), 0, 0, bt169.2)))) else (some (([] : List (S59)), 0, 0, bt167.2)))) = some (r1, r2, r3, r4) := h; clear h; replace H := Option.bind_eq_some_iff.mp H; obtain ⟨⟨t167, t168⟩, A30, H⟩ := H; replace H : (if t168 = 0 then ((rope_Apply.f k t167 l1).bind fun bt169 => (if bt169.2 = 0 then (if (l1.length : Int) = 0 then ((api_Token_31.f l0).bind fun t171 => (some (t171, (l0.length : Int), 0, 0))) else ((relex_ends.f k l0).bind fun t174 => (if 0 < (l1.length : Int) then (if 0 ≤ ((rd_T39 l1 0).f0) then (if ((rd_T39 l1 0).f0) ≤ (t167.size : Int) then ((strings_LastIndexByte.f (t167.extract 0 (((rd_T39 l1 0).f0) : Int).toNat) 10).bind fun t178 => (if t178 ≥ 0 then ((relex_holding.f k t174 t178).bind fun t179 => (relex_Relex.j0 k l0 l1 t167 bt169.1 t174 t179)) else (relex_Relex.j0 k l0 l1 t167 bt169.1 t174 0))) else (none)) else (none)) else (none)))) else (some (([] : List (S59)), 0, 0, bt169.2)))) else (some (([] : List (S59)), 0, 0, t168))) = some (r1, r2, r3, r4) := H; have A3 := Aside0.mk A30; clear A30; by_cases c4 : t168 = 0
 ·rw [if_pos c4] at H; have c4b0 : (t168 == 0) = true := beq_iff_eq.mpr c4; have c4b1 : (t168 != 0) = false := bne_eq_false_iff_eq.mpr c4; clear c4; replace H := Option.bind_eq_some_iff.mp H; obtain ⟨⟨t169, t170⟩, A50, H⟩ := H; replace H : (if t170 = 0 then (if (l1.length : Int) = 0 then ((api_Token_31.f l0).bind fun t171 => (some (t171, (l0.length : Int), 0, 0))) else ((relex_ends.f k l0).bind fun t174 => (if 0 < (l1.length : Int) then (if 0 ≤ ((rd_T39 l1 0).f0) then (if ((rd_T39 l1 0).f0) ≤ (t167.size : Int) then ((strings_LastIndexByte.f (t167.extract 0 (((rd_T39 l1 0).f0) : Int).toNat) 10).bind fun t178 => (if t178 ≥ 0 then ((relex_holding.f k t174 t178).bind fun t179 => (relex_Relex.j0 k l0 l1 t167 t169 t174 t179)) else (relex_Relex.j0 k l0 l1 t167 t169 t174 0))) else (none)) else (none)) else (none)))) else (some (([] : List (S59)), 0, 0, t170))) = some (r1, r2, r3, r4) := H; have A5 := Aside0.mk A50; clear A50; by_cases c6 : t170 = 0
  ·rw [if_pos c6] at H; have c6b0 : (t170 == 0) = true := beq_iff_eq.mpr c6; have c6b1 : (t170 != 0) = false := bne_eq_false_iff_eq.mpr c6; clear c6; by_cases c7 : (l1.length : Int) = 0
   ·rw [if_pos c7] at H; have c7b0 : ((l1.length : Int) == 0) = true := beq_iff_eq.mpr c7; have c7b1 : ((l1.length : Int) != 0) = false := bne_eq_false_iff_eq.mpr c7; clear c7; replace H := zo H; obtain ⟨t171, A8, H⟩ := H; simp only [Option.some.injEq, Prod.mk.injEq] at H; obtain ⟨rfl, rfl, rfl, rfl⟩ := H; go_enter Try.func12, Try.ntmps12
    go_wp2_with (first | ((with_reducible refine zG 30 rfl ?_); refine zg 23 Try.func30 ((token_Text.calls k _ _ l0 t167 t168 _ ?side1 ?side2 A3.out).mono ?_); (case side1 => exact zE' (Kd.V_reads' HO0.out).2.2); (case side2 => exact (Kd.V_reads' HO0.out).2.1); rintro e w9 ⟨rfl, hb⟩; refine ⟨_, rfl, ?_⟩; replace HO0 := (zVb HO0 hb); replace HB := (zB hb); (try clear hb); (try clear hb2); (try clear hk); (try clear hi)) | ((with_reducible refine zG 27 rfl ?_); refine zg 32 Try.func27 ((rope_Apply.calls k t167 _ _ l1 t169 t170 _ ?side1 ?side2 A5.out).mono ?_); (case side1 => exact zC HR1); (case side2 => exact HC1.out); rintro e w10 ⟨rfl, hb⟩; refine ⟨_, rfl, ?_⟩; replace HO0 := (zVb HO0 hb); replace HB := (zB hb); (try clear hb); (try clear hb2); (try clear hk); (try clear hi)) | ((with_reducible refine zG 31 rfl ?_); refine zg 42 Try.func31 ((api_Token_31.calls _ _ l0 t171 _ ?side1 ?side2 A8.out).mono ?_); (case side1 => exact zE' (Kd.V_reads' HO0.out).2.2); (case side2 => exact (Kd.V_reads' HO0.out).2.1); rintro e w11 ⟨v172, rfl, ho0, hb⟩; refine ⟨_, rfl, ?_⟩; replace HO0 := Aside0.mk (Kd.V_elder' (zV HO0) (Kd.R_base ho0) hb); have HO173 := Aside0.mk (Kd.R_lower (Kd.R_newM (M := fun k_ => (w.heap.size ≤ k_)) ho0 (below_size zb) (fun k_ h_ => h_)) (below_size zb)); replace HB := (zB hb); (try clear hb); (try clear hb2); (try clear hk); (try clear hi); (try clear ho0)))
    refine bodyPost_ret (results_list (rs := [.tmp 4, .tmp 5, .tmp 6, .tmp 7]) rfl (by simp) (.tmp (.tmp (.tmp (.tmp .nil))))) rfl ?_; exact ⟨_, zr, by (with_reducible repeat (first | apply Kd.R_alloc | apply Kd.R_drewN | apply Kd.R_drew)); exact Kd.R_mono HO173.out (fun _ hk => hk.1), zb⟩
   ·rw [if_neg c7] at H; have c7b0 : ((l1.length : Int) == 0) = false := beq_eq_false_iff_ne.mpr c7; have c7b1 : ((l1.length : Int) != 0) = true := bne_iff_ne.mpr c7
    have c7b2 : ¬ (l1 = []) := fun h_ => c7 (by rw [h_]; rfl)
    replace H := zo H; obtain ⟨t174, A12, H⟩ := H; replace H := zi H; obtain ⟨c13, H⟩ := H; have c13b0 := decide_eq_true c13; have c13b1 : decide (0 < l1.length) = true := decide_eq_true (by omega); clear c13; replace H := zi2 H; obtain ⟨c14b0, c14b1, H⟩ := H; replace H := zi2 H; obtain ⟨c15b0, c15b1, H⟩ := H; replace H := zo H; obtain ⟨t178, A16, H⟩ := H; have HC17 := Aside0.mk H; clear H; go_enter Try.func12, Try.ntmps12
    go_upto_if 55 with (first | ((with_reducible refine zG 30 rfl ?_); refine zg 23 Try.func30 ((token_Text.calls k _ _ l0 t167 t168 _ ?side1 ?side2 A3.out).mono ?_); (case side1 => exact zE' (Kd.V_reads' HO0.out).2.2); (case side2 => exact (Kd.V_reads' HO0.out).2.1); rintro e w18 ⟨rfl, hb⟩; refine ⟨_, rfl, ?_⟩; replace HO0 := (zVb HO0 hb); replace HB := (zB hb); (try clear hb); (try clear hb2); (try clear hk); (try clear hi)) | ((with_reducible refine zG 27 rfl ?_); refine zg 32 Try.func27 ((rope_Apply.calls k t167 _ _ l1 t169 t170 _ ?side1 ?side2 A5.out).mono ?_); (case side1 => exact zC HR1); (case side2 => exact HC1.out); rintro e w19 ⟨rfl, hb⟩; refine ⟨_, rfl, ?_⟩; replace HO0 := (zVb HO0 hb); replace HB := (zB hb); (try clear hb); (try clear hb2); (try clear hk); (try clear hi)) | ((with_reducible refine zG 32 rfl ?_); refine zg 46 Try.func32 ((relex_ends.calls k _ _ l0 t174 _ ?side1 ?side2 A12.out).mono ?_); (case side1 => exact zE' (Kd.V_reads' HO0.out).2.2); (case side2 => exact (Kd.V_reads' HO0.out).2.1); rintro e w20 ⟨v175, rfl, ho0, hb⟩; refine ⟨_, rfl, ?_⟩; replace HO0 := Aside0.mk (Kd.V_elder' (zV HO0) (Kd.R_base ho0) hb); have HO176 := Aside0.mk (Kd.R_lower (Kd.R_newM (M := fun k_ => (w.heap.size ≤ k_)) ho0 (below_size zb) (fun k_ h_ => h_)) (below_size zb)); replace HB := (zB hb); (try clear hb); (try clear hb2); (try clear hk); (try clear hi); (try clear ho0); have p177 : 0 ≤ (0 : Int) := (by omega); have q177 : 0 < (l1.length : Int) := zt; obtain ⟨ad177, e177, hx177_0, hx177_1, hx177_2⟩ := at_T39 HR1.out 0 p177 q177; cases e177; have qi177 : (0 < l1.length) = True := eq_true (by omega); (try rw [show ((0 : Int)).toNat = 0 from rfl] at hx177_0); (try rw [show 0 * 3 = 0 from rfl] at hx177_0); (try rw [Addr.add_zero'] at hx177_0); (try rw [show ((0 : Int)).toNat = 0 from rfl] at hx177_1); (try rw [show 0 * 3 = 0 from rfl] at hx177_1); (try rw [Addr.add_zero'] at hx177_1); (try rw [show ((0 : Int)).toNat = 0 from rfl] at hx177_2); (try rw [show 0 * 3 = 0 from rfl] at hx177_2); (try rw [Addr.add_zero'] at hx177_2); replace hx177_0 := zh HB hx177_0; replace hx177_1 := zh HB hx177_1; replace hx177_2 := zh HB hx177_2; replace p177 := eq_true p177; replace q177 := eq_true q177) | ((with_reducible refine zG 33 rfl ?_); refine zg 53 Try.func33 ((strings_LastIndexByte.calls (t167.extract 0 (((rd_T39 l1 0).f0) : Int).toNat) 10 t178 _ A16.out).mono ?_); rintro e w' ⟨rfl, ⟨nd, rfl⟩⟩; refine ⟨_, rfl, ?_⟩))
    (try simp only [Act.put, List.setIfInBounds_toArray, List.set_cons_zero, List.set_cons_succ])
    go_cut [12] (fun v12 wc => ∃ (kq : Nat) (x12_16 : Int), v12 = .int .i64 x12_16 ∧ Aside0 (relex_Relex.j0 kq l0 l1 t167 t169 t174 x12_16 = some (r1, r2, r3, r4)) ∧ Aside0 (kq ≤ k) ∧ Aside0 (Kd.V k59 59 wc w.heap.size (fun k_ => (P0_ k_ ∨ w.heap.size ≤ k_) ∧ some k_ ≠ (v175 : Value).ownBlock) (.slice A0 l0.length c0) l0) ∧ Aside0 (Kd.R (Kd.int .i64) 3 wc w.heap.size (fun k_ => (w.heap.size ≤ k_)) v175 t174) ∧ Aside0 (Below w.heap.size w wc))
    case first =>
     have H := HC17.out; clear HC17; by_cases c21 : t178 ≥ 0
     ·rw [if_pos c21] at H; have c21b0 := decide_eq_true c21; clear c21
      (first | rw [c21b0] | (simp only [i64_w, i32_w]; rw [c21b0]) | skip)
      replace H := zo H; obtain ⟨t179, A22, H⟩ := H; have H' := Aside0.mk H; clear H; obtain ⟨Ao23, co23, eo23⟩ := Kd.R_slice HO176.out; subst eo23
      go_wp2_with (first | ((with_reducible refine zG 34 rfl ?_); refine zg 58 Try.func34 ((relex_holding.calls k _ _ t174 t178 t179 _ ?side1 ?side2 A22.out).mono ?_); (case side1 => exact zE' (Kd.R_reads' HO176.out).2.2); (case side2 => exact (Kd.R_reads' HO176.out).2.1); rintro e w' ⟨rfl, ⟨nd, rfl⟩⟩; refine ⟨_, rfl, ?_⟩))
      go_meet
      case rel => exact ⟨_, (t179), zs, H', ⟨by first | omega | exact Nat.le_refl _⟩, ⟨by (with_reducible repeat (first | apply Kd.V_alloc | apply Kd.V_drewN | apply Kd.V_drew)); exact HO0.out⟩, ⟨by (with_reducible repeat (first | apply Kd.R_alloc | apply Kd.R_drewN | apply Kd.R_drew)); exact Kd.R_mono HO176.out (fun _ hk => hk.1)⟩, ⟨zb⟩⟩
     ·rw [if_neg c21] at H; have c21b0 := decide_eq_false c21; clear c21
      (first | rw [c21b0] | (simp only [i64_w, i32_w]; rw [c21b0]) | skip)
      have H' := Aside0.mk H; clear H; go_wp2
      go_meet
      case rel => exact ⟨_, (0), zs, H', ⟨by first | omega | exact Nat.le_refl _⟩, ⟨by (with_reducible repeat (first | apply Kd.V_alloc | apply Kd.V_drewN | apply Kd.V_drew)); exact HO0.out⟩, ⟨by (with_reducible repeat (first | apply Kd.R_alloc | apply Kd.R_drewN | apply Kd.R_drew)); exact Kd.R_mono HO176.out (fun _ hk => hk.1)⟩, ⟨zb⟩⟩
    case rest =>
     clear HC17; obtain ⟨kq, x12_16, rfl, HA, HJ16, HO_0, HO_11, HB⟩ := hcut
     cases kq with
     | zero => exact absurd HA.out (by simp [relex_Relex.j0])
     | succ kj16 =>
      have H := HA.out; clear HA; simp only [relex_Relex.j0] at H
      obtain ⟨ji24, hji24⟩ : ∃ j_ : Int, (wrap64 ((l1.length : Int) - 1)) = j_ := ⟨_, rfl⟩
      replace H : (if 0 ≤ (ji24) then (if (ji24) < (l1.length : Int) then (if 0 ≤ ((rd_T39 l1 (ji24)).f1) then (if ((rd_T39 l1 (ji24)).f1) ≤ (t167.size : Int) then ((strings_IndexByte.f (t167.extract (((rd_T39 l1 (ji24)).f1) : Int).toNat t167.size) 10).bind fun t181 => (if t181 ≥ 0 then ((relex_holding.f kj16 t174 (wrap64 (((rd_T39 l1 (ji24)).f1) + t181))).bind fun t182 => (if 0 ≤ x12_16 then (if x12_16 < (t174.length : Int) then (if 0 ≤ (wrap64 (t182 + 1)) then (if (wrap64 (t182 + 1)) < (t174.length : Int) then (if 0 ≤ (rd t174 x12_16) then (if (rd t174 x12_16) ≤ (wrap64 ((t169.size : Int) - (wrap64 ((t167.size : Int) - (rd t174 (wrap64 (t182 + 1))))))) then (if (wrap64 ((t169.size : Int) - (wrap64 ((t167.size : Int) - (rd t174 (wrap64 (t182 + 1))))))) ≤ (t169.size : Int) then ((token_Lex.f kj16 (t169.extract ((rd t174 x12_16) : Int).toNat ((wrap64 ((t169.size : Int) - (wrap64 ((t167.size : Int) - (rd t174 (wrap64 (t182 + 1))))))) : Int).toNat)).bind fun bt185 => (if x12_16 ≤ (l0.length : Int) then (if (wrap64 (t182 + 1)) ≤ (l0.length : Int) then ((api_Token_36.f (([(l0.take (x12_16 : Int).toNat), bt185.1, (l0.drop ((wrap64 (t182 + 1)) : Int).toNat)] : List (List (S59))))).bind fun t202 => (some (t202, x12_16, wrap64 ((l0.length : Int) - (wrap64 (t182 + 1))), 0))) else (none)) else (none))) else (none)) else (none)) else (none)) else (none)) else (none)) else (none)) else (none))) else (if 0 ≤ x12_16 then (if x12_16 < (t174.length : Int) then (if 0 ≤ (l0.length : Int) then (if (l0.length : Int) < (t174.length : Int) then (if 0 ≤ (rd t174 x12_16) then (if (rd t174 x12_16) ≤ (wrap64 ((t169.size : Int) - (wrap64 ((t167.size : Int) - (rd t174 (l0.length : Int)))))) then (if (wrap64 ((t169.size : Int) - (wrap64 ((t167.size : Int) - (rd t174 (l0.length : Int)))))) ≤ (t169.size : Int) then ((token_Lex.f kj16 (t169.extract ((rd t174 x12_16) : Int).toNat ((wrap64 ((t169.size : Int) - (wrap64 ((t167.size : Int) - (rd t174 (l0.length : Int)))))) : Int).toNat)).bind fun bt207 => (if x12_16 ≤ (l0.length : Int) then (if (l0.length : Int) ≤ (l0.length : Int) then ((api_Token_36.f (([(l0.take (x12_16 : Int).toNat), bt207.1, (l0.drop ((l0.length : Int) : Int).toNat)] : List (List (S59))))).bind fun t224 => (some (t224, x12_16, wrap64 ((l0.length : Int) - (l0.length : Int)), 0))) else (none)) else (none))) else (none)) else (none)) else (none)) else (none)) else (none)) else (none)) else (none)))) else (none)) else (none)) else (none)) else (none)) = some (r1, r2, r3, r4) := by first | (rw [hji24] at H; exact H) | (simp only [hji24] at H ⊢; exact H)
      have hji24w : (IntKind.i64.wrap ((l1.length : Int) - 1)) = ji24 := (i64_w _).trans hji24; replace H := zi1 H; obtain ⟨c25b0, H⟩ := H; replace H := zi1 H; obtain ⟨c26b0, H⟩ := H; replace H := zi2 H; obtain ⟨c27b0, c27b1, H⟩ := H; replace H := zi2 H; obtain ⟨c28b0, c28b1, H⟩ := H; replace H := zo H; obtain ⟨t181, A29, H⟩ := H; by_cases c30 : t181 ≥ 0
      ·rw [if_pos c30] at H; have c30b0 := decide_eq_true c30; clear c30; replace H := zo H; obtain ⟨t182, A31, H⟩ := H; replace H := zi1 H; obtain ⟨c32b0, H⟩ := H; replace H := zi1 H; obtain ⟨c33b0, H⟩ := H
       obtain ⟨ji34, hji34⟩ : ∃ j_ : Int, (wrap64 (t182 + 1)) = j_ := ⟨_, rfl⟩
       replace H : (if 0 ≤ (ji34) then (if (ji34) < (t174.length : Int) then (if 0 ≤ (rd t174 x12_16) then (if (rd t174 x12_16) ≤ (wrap64 ((t169.size : Int) - (wrap64 ((t167.size : Int) - (rd t174 (ji34)))))) then (if (wrap64 ((t169.size : Int) - (wrap64 ((t167.size : Int) - (rd t174 (ji34)))))) ≤ (t169.size : Int) then ((token_Lex.f kj16 (t169.extract ((rd t174 x12_16) : Int).toNat ((wrap64 ((t169.size : Int) - (wrap64 ((t167.size : Int) - (rd t174 (ji34)))))) : Int).toNat)).bind fun bt185 => (if x12_16 ≤ (l0.length : Int) then (if (ji34) ≤ (l0.length : Int) then ((api_Token_36.f (([(l0.take (x12_16 : Int).toNat), bt185.1, (l0.drop ((ji34) : Int).toNat)] : List (List (S59))))).bind fun t202 => (some (t202, x12_16, wrap64 ((l0.length : Int) - (ji34)), 0))) else (none)) else (none))) else (none)) else (none)) else (none)) else (none)) else (none)) = some (r1, r2, r3, r4) := by first | (rw [hji34] at H; exact H) | (simp only [hji34] at H ⊢; exact H)
       (try rw [hji34] at A29)
       (try rw [hji34] at A31)
       have hji34w : (IntKind.i64.wrap (t182 + 1)) = ji34 := (i64_w _).trans hji34; replace H := zi1 H; obtain ⟨c35b0, H⟩ := H; replace H := zi1 H; obtain ⟨c36b0, H⟩ := H; replace H := zi2 H; obtain ⟨c37b0, c37b1, H⟩ := H; replace H := zi2 H; obtain ⟨c38b0, c38b1, H⟩ := H; replace H := zi2 H; obtain ⟨c39b0, c39b1, H⟩ := H; replace H := Option.bind_eq_some_iff.mp H; obtain ⟨⟨t185, t186⟩, A400, H⟩ := H; replace H : (if x12_16 ≤ (l0.length : Int) then (if (ji34) ≤ (l0.length : Int) then ((api_Token_36.f (([(l0.take (x12_16 : Int).toNat), t185, (l0.drop ((ji34) : Int).toNat)] : List (List (S59))))).bind fun t202 => (some (t202, x12_16, wrap64 ((l0.length : Int) - (ji34)), 0))) else (none)) else (none)) = some (r1, r2, r3, r4) := H; have A40 := Aside0.mk A400; clear A400; have c41b0 := eq_true (zt : 0 ≤ x12_16); replace H := zi2 H; obtain ⟨c42b0, c42b1, H⟩ := H
       obtain ⟨y189, hy189⟩ : ∃ y_ : List (S59), y_ = (l0.take (x12_16 : Int).toNat) := ⟨_, rfl⟩
       replace H : (if (ji34) ≤ (l0.length : Int) then ((api_Token_36.f (([y189, t185, (l0.drop ((ji34) : Int).toNat)] : List (List (S59))))).bind fun t202 => (some (t202, x12_16, wrap64 ((l0.length : Int) - (ji34)), 0))) else (none)) = some (r1, r2, r3, r4) := by first | (rw [hy189]; with_reducible exact H) | (have H2_ := (Option.bind_some _ _).symm.trans H; rw [hy189]; with_reducible exact H2_) | (have H2_ := (Option.bind_some _ _).symm.trans H; with_reducible exact H2_) | with_reducible exact H | (rw [hy189]; exact H) | exact H
       have Ny189 := Aside0.mk hy189; clear hy189; have c43b0 := eq_true (zt : 0 ≤ (ji34)); replace H := zi2 H; obtain ⟨c44b0, c44b1, H⟩ := H
       obtain ⟨y194, hy194⟩ : ∃ y_ : List (S59), y_ = (l0.drop ((ji34) : Int).toNat) := ⟨_, rfl⟩
       replace H : ((api_Token_36.f (([y189, t185, y194] : List (List (S59))))).bind fun t202 => (some (t202, x12_16, wrap64 ((l0.length : Int) - (ji34)), 0))) = some (r1, r2, r3, r4) := by first | (rw [hy194]; with_reducible exact H) | (have H2_ := (Option.bind_some _ _).symm.trans H; rw [hy194]; with_reducible exact H2_) | (have H2_ := (Option.bind_some _ _).symm.trans H; with_reducible exact H2_) | with_reducible exact H | (rw [hy194]; exact H) | exact H
       have Ny194 := Aside0.mk hy194; clear hy194
       obtain ⟨y199, hy199⟩ : ∃ y_ : List (List (S59)), y_ = (([y189, t185, y194] : List (List (S59)))) := ⟨_, rfl⟩
       replace H : ((api_Token_36.f y199).bind fun t202 => (some (t202, x12_16, wrap64 ((l0.length : Int) - (ji34)), 0))) = some (r1, r2, r3, r4) := by first | (rw [hy199]; with_reducible exact H) | (have H2_ := (Option.bind_some _ _).symm.trans H; rw [hy199]; with_reducible exact H2_) | (have H2_ := (Option.bind_some _ _).symm.trans H; with_reducible exact H2_) | with_reducible exact H | (rw [hy199]; exact H) | exact H
       have Ny199 := Aside0.mk hy199; clear hy199; replace H := zo H; obtain ⟨t202, A45, H⟩ := H; simp only [Option.some.injEq, Prod.mk.injEq] at H; obtain ⟨rfl, rfl, rfl, rfl⟩ := H; have p180 : 0 ≤ ((ji24) : Int) := zt; have q180 : (ji24) < (l1.length : Int) := zt; obtain ⟨ad180, e180, hx180_0, hx180_1, hx180_2⟩ := at_T39 HR1.out (ji24) p180 q180
       obtain rfl : ad177 = ad180 := (by injection e180)
       replace hx180_0 := zh HB hx180_0; replace hx180_1 := zh HB hx180_1; replace hx180_2 := zh HB hx180_2; replace p180 := eq_true p180; replace q180 := eq_true q180
       try go_wp2_with (first | ((with_reducible refine zG 35 rfl ?_); refine goesL_ (some 71) rfl rfl Try.func35 (by kernel_rfl) rfl #[.string (t167.extract (((rd_T39 l1 (ji24)).f1) : Int).toNat t167.size), .int .u8 10] rfl (by (try simp only [List.map_toArray, List.map_cons, List.map_nil]); first | done | (simp only [hji24]; rfl) | rfl | (simp only [List.length_drop, List.length_take]; rfl)) ?_; (with_reducible refine (strings_IndexByte.calls (t167.extract (((rd_T39 l1 (ji24)).f1) : Int).toNat t167.size) 10 t181 _ A29.out).mono ?_); rintro e w' ⟨rfl, ⟨nd, rfl⟩⟩; refine ⟨_, rfl, ?_⟩; obtain ⟨Ao46, co46, eo46⟩ := Kd.R_slice HO_11.out; subst eo46) | ((with_reducible refine zG 34 rfl ?_); refine goesL_ (some 78) rfl rfl Try.func34 (by kernel_rfl) rfl #[.slice Ao46 t174.length co46, .int .i64 (wrap64 (((rd_T39 l1 (ji24)).f1) + t181))] rfl (by (try simp only [List.map_toArray, List.map_cons, List.map_nil]); first | done | (simp only [hji24]; rfl) | rfl | (simp only [List.length_drop, List.length_take]; rfl)) ?_; (with_reducible refine (relex_holding.calls kj16 _ _ t174 (wrap64 (((rd_T39 l1 (ji24)).f1) + t181)) t182 _ ?side1 ?side2 A31.out).mono ?_); (case side1 => exact zE' (Kd.R_reads' HO_11.out).2.2); (case side2 => exact (Kd.R_reads' HO_11.out).2.1); rintro e w' ⟨rfl, ⟨nd, rfl⟩⟩; refine ⟨_, rfl, ?_⟩))
       (try (rw [drewN_self wc]; generalize hq_ : World.drewN wc _ = wc; replace HO_0 := (⟨by rw [← hq_]; exact (zV HO_0)⟩ : Aside0 (Kd.V k59 59 wc w.heap.size (fun k_ => (P0_ k_ ∨ w.heap.size ≤ k_) ∧ some k_ ≠ (.slice Ao46 t174.length co46 : Value).ownBlock) (.slice A0 l0.length c0) l0)); replace HO_11 := (⟨by rw [← hq_]; exact (zR HO_11)⟩ : Aside0 (Kd.R (Kd.int .i64) 3 wc w.heap.size (fun k_ => (w.heap.size ≤ k_)) (.slice Ao46 t174.length co46) t174)); replace HB := (⟨by rw [← hq_]; exact zb⟩ : Aside0 (Below w.heap.size w wc)); clear hq_))
       replace HO_0 := Aside0.mk (Kd.V_drew HO_0.out); replace HO_11 := Aside0.mk (Kd.R_drew HO_11.out); replace HB := Aside0.mk (below_drew1 HB.out); have p183 : 0 ≤ (x12_16 : Int) := zt; have q183 : x12_16 < (t174.length : Int) := zt; obtain ⟨ad183, e183, hx183_0⟩ := Kd.at_int (Kd.R_reads' HO_11.out).2.2 x12_16 p183 q183
       cases e183
       replace p183 := eq_true p183; replace q183 := eq_true q183; have p184 : 0 ≤ ((ji34) : Int) := zt; have q184 : (ji34) < (t174.length : Int) := zt; obtain ⟨ad184, e184, hx184_0⟩ := Kd.at_int (Kd.R_reads' HO_11.out).2.2 (ji34) p184 q184
       obtain rfl : ad183 = ad184 := (by injection e184)
       replace p184 := eq_true p184; replace q184 := eq_true q184; refine start_ (n := 16) (S := fun w' => w'.cell? (ad183.add (x12_16).toNat) = some (.int .i64 (rd t174 x12_16)) ∧ w'.cell? (ad183.add ((ji34)).toNat) = some (.int .i64 (rd t174 (ji34)))) (ds := []) #[false, false, false, false, false, false, false, false, false, false, false, false, false, false, false, false] (by kernel_rfl) rfl rfl ⟨hx183_0, hx184_0⟩ (fun hHeld => ?_); refine with_tabW relex_Relex.tab19 relex_Relex.bits19 (fun HT_ HW_ => ?_); generalize wc.drew = w47 at HO_0 HO_11 HB hx183_0 hx184_0 hHeld ⊢; refine zp 0 80 HT_ ?_; refine zp 1 81 HT_ ?_; refine zp 2 82 HT_ ?_; refine zp 4 84 HT_ ?_; refine zp 5 85 HT_ ?_; refine zp 6 86 HT_ ?_; refine zp 7 87 HT_ ?_; refine zp 8 88 HT_ ?_; refine zp 9 89 HT_ ?_; refine zp 10 90 HT_ ?_; refine zy 3 83 HT_ HW_ hHeld ?_; refine zp 14 17 HT_ ?_; refine zy 11 91 HT_ HW_ hHeld ?_; refine zp 12 92 HT_ ?_; refine zp 13 93 HT_ ?_; refine zp 15 18 HT_ ?_; refine done_ (done_of HT_.out (by kernel_rfl)) ?_
       try go_wp2_with (first | ((with_reducible refine zG 26 rfl ?_); refine goesL_ (some 99) rfl rfl Try.func26 (by kernel_rfl) rfl #[.string (t169.extract ((rd t174 x12_16) : Int).toNat ((wrap64 ((t169.size : Int) - (wrap64 ((t167.size : Int) - (rd t174 (ji34)))))) : Int).toNat)] rfl (by (try simp only [List.map_toArray, List.map_cons, List.map_nil]); first | done | (simp only [hji34]; rfl) | rfl | (simp only [List.length_drop, List.length_take]; rfl)) ?_; (with_reducible refine (token_Lex.calls kj16 (t169.extract ((rd t174 x12_16) : Int).toNat ((wrap64 ((t169.size : Int) - (wrap64 ((t167.size : Int) - (rd t174 (ji34)))))) : Int).toNat) t185 t186 _ A40.out).mono ?_); rintro e w48 ⟨v187, rfl, ho0, hb⟩; refine ⟨_, rfl, ?_⟩; replace HO_0 := Aside0.mk (Kd.V_elder' (zV HO_0) (Kd.R_base ho0) hb); replace HO_11 := (zRb HO_11 hb); have HO188 := Aside0.mk (Kd.R_lower (Kd.R_newM (M := fun k_ => (w.heap.size ≤ k_)) ho0 (below_size zb) (fun k_ h_ => h_)) (below_size zb)); replace HB := (zB hb); (try clear hb); (try clear hb2); (try clear hk); (try clear hi); (try clear ho0)))
       replace HO_0 := Aside0.mk (Kd.V_drew HO_0.out); replace HO_11 := Aside0.mk (Kd.R_drew HO_11.out); replace HO188 := Aside0.mk (Kd.R_drew HO188.out); replace HB := Aside0.mk (below_drew1 HB.out); have q50 : (x12_16 : Int) ≤ ((l0.length : Int) : Int) := zt; obtain ⟨i050, hi050, _, hsz50, _⟩ := info_parts info59; have hroom50 : l0.length ≤ c0 := (Kd.V_reads' HO_0.out).2.1; have hC50 : Kd.F k59 _ _ A0 l0.length l0 := (Kd.V_at (base := w.heap.size) HO_0.out).2.2; have hcut50 := cut_to (P := Try.prog) 22 59 .i64 Try.underlying22 hi050 A0 l0.length c0 x12_16 (zt) q50 hroom50; have hr50 := Kd.F_take (m := (x12_16 : Int).toNat) hC50 (by omega)
       have hy50 : y189.length = (x12_16 : Int).toNat := (by rw [Ny189.out, List.length_take]; omega)
       rw [← Ny189.out] at hr50; rw [← hy50] at hcut50; have HO193 := Aside0.mk (show Kd.V k59 59 _ w.heap.size _ (.slice A0 y189.length c0) y189 from Kd.V_mk (by omega) hr50); have HC193 := Aside0.mk (show y189.length ≤ c0 from by omega); clear hr50 hC50 hroom50 hi050 hsz50; have KY50 := Aside0.mk hy50; clear hy50; replace q50 := eq_true q50; have q51 : ((ji34) : Int) ≤ ((l0.length : Int) : Int) := zt; obtain ⟨i051, hi051, _, hsz51, _⟩ := info_parts info59; have hroom51 : l0.length ≤ c0 := (Kd.V_reads' HO_0.out).2.1; have hC51 : Kd.F k59 _ _ A0 l0.length l0 := (Kd.V_at (base := w.heap.size) HO_0.out).2.2; have q051 : (0 : Int) ≤ ((ji34) : Int) := zt; have hcut51 := cut_from (P := Try.prog) 22 59 .i64 Try.underlying22 hi051 2 hsz51 A0 l0.length c0 (ji34) q051 q51; have hr51 := Kd.F_cut (m := ((ji34) : Int).toNat) (c := c0) hC51 (by omega) hroom51
       obtain ⟨A51, hA51⟩ : ∃ A_, A_ = (if c0 = ((ji34) : Int).toNat then A0 else (A0 : Option Addr).map (·.add (((ji34) : Int).toNat * 2))) := ⟨_, rfl⟩
       obtain ⟨c51, hc51⟩ : ∃ c_, c_ = c0 - ((ji34) : Int).toNat := ⟨_, rfl⟩
       have hy51 : y194.length = l0.length - ((ji34) : Int).toNat := (by rw [Ny194.out, List.length_drop] <;> omega)
       rw [show (l0).drop ((ji34) : Int).toNat = y194 from Ny194.out.symm] at hr51
       replace hr51 : Kd.F k59 _ _ A51 y194.length y194 := (by rw [hA51]; exact hr51)
       rw [← hy51, ← hA51, ← hc51] at hcut51; have HO198 := Aside0.mk (show Kd.V k59 59 _ w.heap.size _ (.slice A51 y194.length c51) y194 from Kd.V_mk (by rw [hy51, hc51]; exact Nat.sub_le_sub_right hroom51 _) hr51); have HC198 := Aside0.mk (show y194.length ≤ c51 from by rw [hy51, hc51]; exact Nat.sub_le_sub_right hroom51 _); clear hr51 hC51 hroom51 hi051 hsz51 hc51; have KY51 := Aside0.mk hy51; have KA51 := Aside0.mk hA51; clear hy51 hA51; replace q51 := eq_true q51; obtain ⟨Ao52, co52, eo52⟩ := Kd.R_slice HO188.out
       (first | subst eo52 | (injection eo52 with f1_ f2_ f3_; have f4_ := f1_.symm; have f5_ := f3_.symm; clear f1_ f2_ f3_; subst f4_; subst f5_))
       refine start_ (n := 18) (S := fun w' => True) (ds := []) #[false, false, false, false, false, false, false, false, false, false, false, false, false, false, false, false, false, false] (by kernel_rfl) rfl rfl trivial (fun hHeld => ?_); refine with_tabW relex_Relex.tab21 relex_Relex.bits21 (fun HT_ HW_ => ?_); generalize w48.drew = w49 at HO_0 HO_11 HO188 HB HO193 HO198 hHeld ⊢; refine zp 0 102 HT_ ?_; refine zp 1 103 HT_ ?_; refine zp 2 104 HT_ ?_; refine zp 3 105 HT_ ?_; refine zp 4 106 HT_ ?_; refine zp 5 107 HT_ ?_; refine zp 6 108 HT_ ?_; refine zp 9 111 HT_ ?_; refine zp 10 112 HT_ ?_; refine zp 11 113 HT_ ?_; refine zp 12 114 HT_ ?_; refine zp 13 115 HT_ ?_; refine one_ (i := 7) (N := some 109) #[true, true, true, true, true, true, true, true, false, true, true, true, true, true, false, false, false, false] rfl rfl (one_of HT_.out (by kernel_rfl)) (by decide) (fun K hK => ?_); refine Kd.N_lit_step (Kd.slice 59 k59) _ 22 ?hg (N' := 109) ?hd (xs := ([y189, t185, y194] : List (List (S59)))) (inner := [.slice A0 y189.length c0, .slice Ao52 t185.length co52, .slice A51 y194.length c51]) (ok := (fun k_ => (P0_ k_ ∨ w.heap.size ≤ k_) ∧ some k_ ≠ (.slice (some ad183) t174.length co46 : Value).ownBlock)) (okp := (fun k_ => (P0_ k_ ∨ w.heap.size ≤ k_) ∧ some k_ ≠ (.slice (some ad183) t174.length co46 : Value).ownBlock)) ?hr ?hp (fun _ hk => hk) ((show ∀ k_, w49.heap.size ≤ k_ → (fun k_ => (P0_ k_ ∨ w.heap.size ≤ k_) ∧ some k_ ≠ (.slice (some ad183) t174.length co46 : Value).ownBlock) k_ from fun k_ hk => ⟨(.inr (Nat.le_trans (below_size zb) hk)), Kd.fresh' (Kd.R_lt (zR HO_11)) k_ hk⟩) _ (Nat.le_refl _)) (Below.refl _ _) (Nat.le_refl _) (by simp) ?_; (case hd => rfl); (case hg => rfl); (case hr => first | (go_simp; done) | (go_simp; rfl)); (case hp => exact (Reps.one (show Kd.FK (Kd.slice 59 k59) _ _ y189 [.slice A0 y189.length c0] from (Kd.FK_slice_mk (Kd.V_reads' (Kd.V_mono (ok' := (fun k_ => (P0_ k_ ∨ w.heap.size ≤ k_) ∧ some k_ ≠ (.slice (some ad183) t174.length co46 : Value).ownBlock)) (HO193.out) (fun k_ hk => ⟨hk.1.1, hk.1.2⟩))).2.1 (Kd.V_F (Kd.V_mono (ok' := (fun k_ => (P0_ k_ ∨ w.heap.size ≤ k_) ∧ some k_ ≠ (.slice (some ad183) t174.length co46 : Value).ownBlock)) (HO193.out) (fun k_ hk => ⟨hk.1.1, hk.1.2⟩))))) (Reps.one (show Kd.FK (Kd.slice 59 k59) _ _ t185 [.slice Ao52 t185.length co52] from (Kd.FK_slice_mk (Kd.R_reads' (Kd.R_mono (ok' := (fun k_ => (P0_ k_ ∨ w.heap.size ≤ k_) ∧ some k_ ≠ (.slice (some ad183) t174.length co46 : Value).ownBlock)) (Kd.R_apart' (HO188.out) (Kd.R_typed HO_11.out) (by decide)) (fun k_ hk => ⟨(.inr (hk.1.1)), hk.2⟩))).2.1 (Kd.R_F (Kd.R_mono (ok' := (fun k_ => (P0_ k_ ∨ w.heap.size ≤ k_) ∧ some k_ ≠ (.slice (some ad183) t174.length co46 : Value).ownBlock)) (Kd.R_apart' (HO188.out) (Kd.R_typed HO_11.out) (by decide)) (fun k_ hk => ⟨(.inr (hk.1.1)), hk.2⟩))))) (Reps.one (show Kd.FK (Kd.slice 59 k59) _ _ y194 [.slice A51 y194.length c51] from (Kd.FK_slice_mk (Kd.V_reads' (Kd.V_mono (ok' := (fun k_ => (P0_ k_ ∨ w.heap.size ≤ k_) ∧ some k_ ≠ (.slice (some ad183) t174.length co46 : Value).ownBlock)) (HO198.out) (fun k_ hk => ⟨hk.1.1, hk.1.2⟩))).2.1 (Kd.V_F (Kd.V_mono (ok' := (fun k_ => (P0_ k_ ∨ w.heap.size ≤ k_) ∧ some k_ ≠ (.slice (some ad183) t174.length co46 : Value).ownBlock)) (HO198.out) (fun k_ hk => ⟨hk.1.1, hk.1.2⟩))))) (Reps.none _ _))))); intro v200 w53 ho54 hb hg_ hnew_; clear hg_ hnew_
       (first | rw [← Ny199.out] at ho54 | (simp only [Int.reduceToNat] at ho54; rw [← Ny199.out] at ho54))
       replace HO_0 := Aside0.mk (Kd.V_elder' (zV HO_0) (Kd.N_base ho54) hb)
       replace HO_11 := (zRb HO_11 hb)
       replace HO193 := Aside0.mk (Kd.V_elder' (zV HO193) (Kd.N_base ho54) hb); replace HO198 := Aside0.mk (Kd.V_elder' (zV HO198) (Kd.N_base ho54) hb); have HO201 := Aside0.mk (Kd.N_lower ho54 (below_size zb))
       replace HB := (zB hb)
       clear HO188 hb ho54; obtain ⟨Ao55, co55, eo55⟩ := Kd.N_slice HO201.out
       (first | subst eo55 | (injection eo55 with f1_ f2_ f3_; have f4_ := f1_.symm; have f5_ := f3_.symm; clear f1_ f2_ f3_; subst f4_; subst f5_))
       refine hK.out _ _ trivial (fun hHeld => ?_); clear hK K; refine norm_ (a' := ?_) ?_ ?_; rotate_left
       ·show Act.put _ (some 109) _ = _
        simp only [Act.put, List.setIfInBounds_toArray, List.set_cons_zero, List.set_cons_succ, i64_w, i32_w]; rfl
       refine one_ (i := 8) (N := some 110) #[true, true, true, true, true, true, true, true, true, true, true, true, true, true, false, false, false, false] rfl rfl (one_of HT_.out (by kernel_rfl)) (by decide) (fun K hK => ?_); refine goes_ Try.func36 (by kernel_rfl) rfl #[.slice Ao55 y199.length co55] (by rfl) rfl rfl (by (try simp only [List.map_toArray, List.map_cons, List.map_nil]); first | done | rfl | (simp only [List.length_drop, List.length_take]; rfl)) ?_
       with_reducible refine (api_Token_36.calls _ _ y199 t202 _ ?side1 ?side2 A45.out).mono ?_
       (case side1 => repeat (first | exact (Kd.N_reads' HO201.out).2.2 | (with_reducible refine Kd.C_alloc ?_ _) | (with_reducible refine Kd.C_drewN ?_ _) | (with_reducible refine Kd.C_drew ?_)))
       (case side2 => exact (Kd.N_reads' HO201.out).2.1)
       rintro e w56 ⟨v203, rfl, ho0, hb⟩; refine ⟨_, rfl, ?_⟩; replace HO_0 := Aside0.mk (Kd.V_elder' (zV HO_0) (Kd.R_base ho0) hb)
       replace HO_11 := (zRb HO_11 hb)
       replace HO193 := Aside0.mk (Kd.V_elder' (zV HO193) (Kd.R_base ho0) hb); replace HO198 := Aside0.mk (Kd.V_elder' (zV HO198) (Kd.R_base ho0) hb); replace HO201 := Aside0.mk (Kd.N_elder' (by (with_reducible repeat (first | apply Kd.N_alloc | apply Kd.N_drewN | apply Kd.N_drew)); exact HO201.out) (Kd.R_base ho0) hb); have HO204 := Aside0.mk (Kd.R_lower (Kd.R_newM (M := fun k_ => (w.heap.size ≤ k_)) ho0 (below_size zb) (fun k_ h_ => h_)) (below_size zb))
       replace HB := (zB hb)
       (try clear hb)
       (try clear hb2)
       (try clear hk)
       (try clear hi)
       (try clear ho0)
       refine hK.out _ _ trivial (fun hHeld => ?_); clear hK K; refine norm_ (a' := ?_) ?_ ?_; rotate_left
       ·show Act.put _ (some 110) _ = _
        simp only [Act.put, List.setIfInBounds_toArray, List.set_cons_zero, List.set_cons_succ, i64_w, i32_w]; rfl
       refine zp 14 4 HT_ ?_; refine zp 15 5 HT_ ?_; refine zp 16 6 HT_ ?_; refine zp 17 7 HT_ ?_; refine done_ (done_of HT_.out (by kernel_rfl)) ?_
       try go_wp2
       refine bodyPost_ret (results_list (rs := [.tmp 4, .tmp 5, .tmp 6, .tmp 7]) rfl (by simp) (.tmp (.tmp (.tmp (.tmp .nil))))) rfl ?_; exact ⟨_, by first | rfl | (simp [errW_none, errW_some] <;> rfl) | (simp only [← hji24, ← hji34]; first | rfl | (simp [errW_none, errW_some] <;> rfl)) | (simp [*, errW_none, errW_some] <;> rfl), by (with_reducible repeat (first | apply Kd.R_alloc | apply Kd.R_drewN | apply Kd.R_drew)); exact Kd.R_mono HO204.out (fun _ hk => hk.1), zb⟩
      ·rw [if_neg c30] at H; have c30b0 := decide_eq_false c30; clear c30; replace H := zi1 H; obtain ⟨c57b0, H⟩ := H; replace H := zi1 H; obtain ⟨c58b0, H⟩ := H; replace H := zi H; obtain ⟨c59, H⟩ := H; have c59b0 := decide_eq_true c59; have c59b1 : decide (0 ≤ l0.length) = true := decide_eq_true (by omega); clear c59; replace H := zi H; obtain ⟨c60, H⟩ := H; have c60b0 := decide_eq_true c60; have c60b1 : decide (l0.length < t174.length) = true := decide_eq_true (Int.ofNat_lt.mp c60); clear c60; replace H := zi2 H; obtain ⟨c61b0, c61b1, H⟩ := H; replace H := zi2 H; obtain ⟨c62b0, c62b1, H⟩ := H; replace H := zi2 H; obtain ⟨c63b0, c63b1, H⟩ := H; replace H := Option.bind_eq_some_iff.mp H; obtain ⟨⟨t207, t208⟩, A640, H⟩ := H; replace H : (if x12_16 ≤ (l0.length : Int) then (if (l0.length : Int) ≤ (l0.length : Int) then ((api_Token_36.f (([(l0.take (x12_16 : Int).toNat), t207, (l0.drop ((l0.length : Int) : Int).toNat)] : List (List (S59))))).bind fun t224 => (some (t224, x12_16, wrap64 ((l0.length : Int) - (l0.length : Int)), 0))) else (none)) else (none)) = some (r1, r2, r3, r4) := H; have A64 := Aside0.mk A640; clear A640; have c65b0 := eq_true (zt : 0 ≤ x12_16); replace H := zi2 H; obtain ⟨c66b0, c66b1, H⟩ := H
       obtain ⟨y211, hy211⟩ : ∃ y_ : List (S59), y_ = (l0.take (x12_16 : Int).toNat) := ⟨_, rfl⟩
       replace H : (if (l0.length : Int) ≤ (l0.length : Int) then ((api_Token_36.f (([y211, t207, (l0.drop ((l0.length : Int) : Int).toNat)] : List (List (S59))))).bind fun t224 => (some (t224, x12_16, wrap64 ((l0.length : Int) - (l0.length : Int)), 0))) else (none)) = some (r1, r2, r3, r4) := by first | (rw [hy211]; with_reducible exact H) | (have H2_ := (Option.bind_some _ _).symm.trans H; rw [hy211]; with_reducible exact H2_) | (have H2_ := (Option.bind_some _ _).symm.trans H; with_reducible exact H2_) | with_reducible exact H | (rw [hy211]; exact H) | exact H
       have Ny211 := Aside0.mk hy211; clear hy211; have c67b0 := eq_true (zt : 0 ≤ (l0.length : Int)); replace H := zi2 H; obtain ⟨c68b0, c68b1, H⟩ := H
       obtain ⟨y216, hy216⟩ : ∃ y_ : List (S59), y_ = (l0.drop ((l0.length : Int) : Int).toNat) := ⟨_, rfl⟩
       replace H : ((api_Token_36.f (([y211, t207, y216] : List (List (S59))))).bind fun t224 => (some (t224, x12_16, wrap64 ((l0.length : Int) - (l0.length : Int)), 0))) = some (r1, r2, r3, r4) := by first | (rw [hy216]; with_reducible exact H) | (have H2_ := (Option.bind_some _ _).symm.trans H; rw [hy216]; with_reducible exact H2_) | (have H2_ := (Option.bind_some _ _).symm.trans H; with_reducible exact H2_) | with_reducible exact H | (rw [hy216]; exact H) | exact H
       have Ny216 := Aside0.mk hy216; clear hy216
       obtain ⟨y221, hy221⟩ : ∃ y_ : List (List (S59)), y_ = (([y211, t207, y216] : List (List (S59)))) := ⟨_, rfl⟩
       replace H : ((api_Token_36.f y221).bind fun t224 => (some (t224, x12_16, wrap64 ((l0.length : Int) - (l0.length : Int)), 0))) = some (r1, r2, r3, r4) := by first | (rw [hy221]; with_reducible exact H) | (have H2_ := (Option.bind_some _ _).symm.trans H; rw [hy221]; with_reducible exact H2_) | (have H2_ := (Option.bind_some _ _).symm.trans H; with_reducible exact H2_) | with_reducible exact H | (rw [hy221]; exact H) | exact H
       have Ny221 := Aside0.mk hy221; clear hy221; replace H := zo H; obtain ⟨t224, A69, H⟩ := H; simp only [Option.some.injEq, Prod.mk.injEq] at H; obtain ⟨rfl, rfl, rfl, rfl⟩ := H; have p180 : 0 ≤ ((ji24) : Int) := zt; have q180 : (ji24) < (l1.length : Int) := zt; obtain ⟨ad180, e180, hx180_0, hx180_1, hx180_2⟩ := at_T39 HR1.out (ji24) p180 q180
       obtain rfl : ad177 = ad180 := (by injection e180)
       replace hx180_0 := zh HB hx180_0; replace hx180_1 := zh HB hx180_1; replace hx180_2 := zh HB hx180_2; replace p180 := eq_true p180; replace q180 := eq_true q180
       try go_wp2_with (first | ((with_reducible refine zG 35 rfl ?_); refine goesL_ (some 71) rfl rfl Try.func35 (by kernel_rfl) rfl #[.string (t167.extract (((rd_T39 l1 (ji24)).f1) : Int).toNat t167.size), .int .u8 10] rfl (by (try simp only [List.map_toArray, List.map_cons, List.map_nil]); first | done | (simp only [hji24]; rfl) | rfl | (simp only [List.length_drop, List.length_take]; rfl)) ?_; (with_reducible refine (strings_IndexByte.calls (t167.extract (((rd_T39 l1 (ji24)).f1) : Int).toNat t167.size) 10 t181 _ A29.out).mono ?_); rintro e w' ⟨rfl, ⟨nd, rfl⟩⟩; refine ⟨_, rfl, ?_⟩))
       (try (rw [drewN_self wc]; generalize hq_ : World.drewN wc _ = wc; replace HO_0 := (⟨by rw [← hq_]; exact (zV HO_0)⟩ : Aside0 (Kd.V k59 59 wc w.heap.size (fun k_ => (P0_ k_ ∨ w.heap.size ≤ k_) ∧ some k_ ≠ (v175 : Value).ownBlock) (.slice A0 l0.length c0) l0)); replace HO_11 := (⟨by rw [← hq_]; exact (zR HO_11)⟩ : Aside0 (Kd.R (Kd.int .i64) 3 wc w.heap.size (fun k_ => (w.heap.size ≤ k_)) v175 t174)); replace HB := (⟨by rw [← hq_]; exact zb⟩ : Aside0 (Below w.heap.size w wc)); clear hq_))
       replace HO_0 := Aside0.mk (Kd.V_drew HO_0.out); replace HO_11 := Aside0.mk (Kd.R_drew HO_11.out); replace HB := Aside0.mk (below_drew1 HB.out); obtain ⟨Ao71, co71, eo71⟩ := Kd.R_slice HO_11.out
       (first | subst eo71 | (injection eo71 with f1_ f2_ f3_; have f4_ := f1_.symm; have f5_ := f3_.symm; clear f1_ f2_ f3_; subst f4_; subst f5_))
       have p205 : 0 ≤ (x12_16 : Int) := zt; have q205 : x12_16 < (t174.length : Int) := zt; obtain ⟨ad205, e205, hx205_0⟩ := Kd.at_int (Kd.R_reads' HO_11.out).2.2 x12_16 p205 q205
       cases e205
       replace p205 := eq_true p205; replace q205 := eq_true q205; have p206 : 0 ≤ ((l0.length : Int) : Int) := zt; have q206 : (l0.length : Int) < (t174.length : Int) := zt; obtain ⟨ad206, e206, hx206_0⟩ := Kd.at_int (Kd.R_reads' HO_11.out).2.2 (l0.length : Int) p206 q206
       obtain rfl : ad205 = ad206 := (by injection e206)
       (try simp only [Go.IntWalk.toNatUp] at hx206_0)
       replace p206 := eq_true p206; replace q206 := eq_true q206; refine start_ (n := 16) (S := fun w' => w'.cell? (ad205.add (x12_16).toNat) = some (.int .i64 (rd t174 x12_16)) ∧ w'.cell? (ad205.add l0.length) = some (.int .i64 (rd t174 (l0.length : Int)))) (ds := []) #[false, false, false, false, false, false, false, false, false, false, false, false, false, false, false, false] (by kernel_rfl) rfl rfl ⟨hx205_0, hx206_0⟩ (fun hHeld => ?_); refine with_tabW relex_Relex.tab19 relex_Relex.bits19 (fun HT_ HW_ => ?_); generalize wc.drew = w70 at HO_0 HO_11 HB hx205_0 hx206_0 hHeld ⊢; refine zp 0 80 HT_ ?_; refine zp 1 81 HT_ ?_; refine zp 2 82 HT_ ?_; refine zp 4 84 HT_ ?_; refine zp 5 85 HT_ ?_; refine zp 6 86 HT_ ?_; refine zp 7 87 HT_ ?_; refine zp 8 88 HT_ ?_; refine zp 9 89 HT_ ?_; refine zp 10 90 HT_ ?_; refine zy 3 83 HT_ HW_ hHeld ?_; refine zp 14 17 HT_ ?_; refine zy 11 91 HT_ HW_ hHeld ?_; refine zp 12 92 HT_ ?_; refine zp 13 93 HT_ ?_; refine zp 15 18 HT_ ?_; refine done_ (done_of HT_.out (by kernel_rfl)) ?_
       try go_wp2_with (first | ((with_reducible refine zG 26 rfl ?_); refine zg 99 Try.func26 ((token_Lex.calls kj16 (t169.extract ((rd t174 x12_16) : Int).toNat ((wrap64 ((t169.size : Int) - (wrap64 ((t167.size : Int) - (rd t174 (l0.length : Int)))))) : Int).toNat) t207 t208 _ A64.out).mono ?_); rintro e w72 ⟨v209, rfl, ho0, hb⟩; refine ⟨_, rfl, ?_⟩; replace HO_0 := Aside0.mk (Kd.V_elder' (zV HO_0) (Kd.R_base ho0) hb); replace HO_11 := (zRb HO_11 hb); have HO210 := Aside0.mk (Kd.R_lower (Kd.R_newM (M := fun k_ => (w.heap.size ≤ k_)) ho0 (below_size zb) (fun k_ h_ => h_)) (below_size zb)); replace HB := (zB hb); (try clear hb); (try clear hb2); (try clear hk); (try clear hi); (try clear ho0)))
       replace HO_0 := Aside0.mk (Kd.V_drew HO_0.out); replace HO_11 := Aside0.mk (Kd.R_drew HO_11.out); replace HO210 := Aside0.mk (Kd.R_drew HO210.out); replace HB := Aside0.mk (below_drew1 HB.out); have q74 : (x12_16 : Int) ≤ ((l0.length : Int) : Int) := zt; obtain ⟨i074, hi074, _, hsz74, _⟩ := info_parts info59; have hroom74 : l0.length ≤ c0 := (Kd.V_reads' HO_0.out).2.1; have hC74 : Kd.F k59 _ _ A0 l0.length l0 := (Kd.V_at (base := w.heap.size) HO_0.out).2.2; have hcut74 := cut_to (P := Try.prog) 22 59 .i64 Try.underlying22 hi074 A0 l0.length c0 x12_16 (zt) q74 hroom74; have hr74 := Kd.F_take (m := (x12_16 : Int).toNat) hC74 (by omega)
       have hy74 : y211.length = (x12_16 : Int).toNat := (by rw [Ny211.out, List.length_take]; omega)
       rw [← Ny211.out] at hr74; rw [← hy74] at hcut74; have HO215 := Aside0.mk (show Kd.V k59 59 _ w.heap.size _ (.slice A0 y211.length c0) y211 from Kd.V_mk (by omega) hr74); have HC215 := Aside0.mk (show y211.length ≤ c0 from by omega); clear hr74 hC74 hroom74 hi074 hsz74; have KY74 := Aside0.mk hy74; clear hy74; replace q74 := eq_true q74; have q75 : ((l0.length : Int) : Int) ≤ ((l0.length : Int) : Int) := zt; obtain ⟨i075, hi075, _, hsz75, _⟩ := info_parts info59; have hroom75 : l0.length ≤ c0 := (Kd.V_reads' HO_0.out).2.1; have hC75 : Kd.F k59 _ _ A0 l0.length l0 := (Kd.V_at (base := w.heap.size) HO_0.out).2.2; have q075 : (0 : Int) ≤ ((l0.length : Int) : Int) := zt; have hcut75 := cut_from (P := Try.prog) 22 59 .i64 Try.underlying22 hi075 2 hsz75 A0 l0.length c0 (l0.length : Int) q075 q75; have hr75 := Kd.F_cut (m := ((l0.length : Int) : Int).toNat) (c := c0) hC75 (by omega) hroom75
       obtain ⟨A75, hA75⟩ : ∃ A_, A_ = (if c0 = ((l0.length : Int) : Int).toNat then A0 else (A0 : Option Addr).map (·.add (((l0.length : Int) : Int).toNat * 2))) := ⟨_, rfl⟩
       obtain ⟨c75, hc75⟩ : ∃ c_, c_ = c0 - ((l0.length : Int) : Int).toNat := ⟨_, rfl⟩
       have hy75 : y216.length = l0.length - ((l0.length : Int) : Int).toNat := (by rw [Ny216.out, List.length_drop] <;> omega)
       rw [show (l0).drop ((l0.length : Int) : Int).toNat = y216 from Ny216.out.symm] at hr75
       replace hr75 : Kd.F k59 _ _ A75 y216.length y216 := (by rw [hA75]; exact hr75)
       rw [← hy75, ← hA75, ← hc75] at hcut75; have HO220 := Aside0.mk (show Kd.V k59 59 _ w.heap.size _ (.slice A75 y216.length c75) y216 from Kd.V_mk (by rw [hy75, hc75]; exact Nat.sub_le_sub_right hroom75 _) hr75); have HC220 := Aside0.mk (show y216.length ≤ c75 from by rw [hy75, hc75]; exact Nat.sub_le_sub_right hroom75 _); clear hr75 hC75 hroom75 hi075 hsz75 hc75; have KY75 := Aside0.mk hy75; have KA75 := Aside0.mk hA75; clear hy75 hA75; replace q75 := eq_true q75; obtain ⟨Ao76, co76, eo76⟩ := Kd.R_slice HO210.out
       (first | subst eo76 | (injection eo76 with f1_ f2_ f3_; have f4_ := f1_.symm; have f5_ := f3_.symm; clear f1_ f2_ f3_; subst f4_; subst f5_))
       refine start_ (n := 18) (S := fun w' => True) (ds := []) #[false, false, false, false, false, false, false, false, false, false, false, false, false, false, false, false, false, false] (by kernel_rfl) rfl rfl trivial (fun hHeld => ?_); refine with_tabW relex_Relex.tab21 relex_Relex.bits21 (fun HT_ HW_ => ?_); generalize w72.drew = w73 at HO_0 HO_11 HO210 HB HO215 HO220 hHeld ⊢; refine zp 0 102 HT_ ?_; refine zp 1 103 HT_ ?_; refine zp 2 104 HT_ ?_; refine zp 3 105 HT_ ?_; refine zp 4 106 HT_ ?_; refine zp 5 107 HT_ ?_; refine zp 6 108 HT_ ?_; refine zp 9 111 HT_ ?_; refine zp 10 112 HT_ ?_; refine zp 11 113 HT_ ?_; refine zp 12 114 HT_ ?_; refine zp 13 115 HT_ ?_; refine one_ (i := 7) (N := some 109) #[true, true, true, true, true, true, true, true, false, true, true, true, true, true, false, false, false, false] rfl rfl (one_of HT_.out (by kernel_rfl)) (by decide) (fun K hK => ?_); refine Kd.N_lit_step (Kd.slice 59 k59) _ 22 ?hg (N' := 109) ?hd (xs := ([y211, t207, y216] : List (List (S59)))) (inner := [.slice A0 y211.length c0, .slice Ao76 t207.length co76, .slice A75 y216.length c75]) (ok := (fun k_ => (P0_ k_ ∨ w.heap.size ≤ k_) ∧ some k_ ≠ (.slice (some ad205) t174.length co71 : Value).ownBlock)) (okp := (fun k_ => (P0_ k_ ∨ w.heap.size ≤ k_) ∧ some k_ ≠ (.slice (some ad205) t174.length co71 : Value).ownBlock)) ?hr ?hp (fun _ hk => hk) ((show ∀ k_, w73.heap.size ≤ k_ → (fun k_ => (P0_ k_ ∨ w.heap.size ≤ k_) ∧ some k_ ≠ (.slice (some ad205) t174.length co71 : Value).ownBlock) k_ from fun k_ hk => ⟨(.inr (Nat.le_trans (below_size zb) hk)), Kd.fresh' (Kd.R_lt (zR HO_11)) k_ hk⟩) _ (Nat.le_refl _)) (Below.refl _ _) (Nat.le_refl _) (by simp) ?_; (case hd => rfl); (case hg => rfl); (case hr => first | (go_simp; done) | (go_simp; rfl)); (case hp => exact (Reps.one (show Kd.FK (Kd.slice 59 k59) _ _ y211 [.slice A0 y211.length c0] from (Kd.FK_slice_mk (Kd.V_reads' (Kd.V_mono (ok' := (fun k_ => (P0_ k_ ∨ w.heap.size ≤ k_) ∧ some k_ ≠ (.slice (some ad205) t174.length co71 : Value).ownBlock)) (HO215.out) (fun k_ hk => ⟨hk.1.1, hk.1.2⟩))).2.1 (Kd.V_F (Kd.V_mono (ok' := (fun k_ => (P0_ k_ ∨ w.heap.size ≤ k_) ∧ some k_ ≠ (.slice (some ad205) t174.length co71 : Value).ownBlock)) (HO215.out) (fun k_ hk => ⟨hk.1.1, hk.1.2⟩))))) (Reps.one (show Kd.FK (Kd.slice 59 k59) _ _ t207 [.slice Ao76 t207.length co76] from (Kd.FK_slice_mk (Kd.R_reads' (Kd.R_mono (ok' := (fun k_ => (P0_ k_ ∨ w.heap.size ≤ k_) ∧ some k_ ≠ (.slice (some ad205) t174.length co71 : Value).ownBlock)) (Kd.R_apart' (HO210.out) (Kd.R_typed HO_11.out) (by decide)) (fun k_ hk => ⟨(.inr (hk.1.1)), hk.2⟩))).2.1 (Kd.R_F (Kd.R_mono (ok' := (fun k_ => (P0_ k_ ∨ w.heap.size ≤ k_) ∧ some k_ ≠ (.slice (some ad205) t174.length co71 : Value).ownBlock)) (Kd.R_apart' (HO210.out) (Kd.R_typed HO_11.out) (by decide)) (fun k_ hk => ⟨(.inr (hk.1.1)), hk.2⟩))))) (Reps.one (show Kd.FK (Kd.slice 59 k59) _ _ y216 [.slice A75 y216.length c75] from (Kd.FK_slice_mk (Kd.V_reads' (Kd.V_mono (ok' := (fun k_ => (P0_ k_ ∨ w.heap.size ≤ k_) ∧ some k_ ≠ (.slice (some ad205) t174.length co71 : Value).ownBlock)) (HO220.out) (fun k_ hk => ⟨hk.1.1, hk.1.2⟩))).2.1 (Kd.V_F (Kd.V_mono (ok' := (fun k_ => (P0_ k_ ∨ w.heap.size ≤ k_) ∧ some k_ ≠ (.slice (some ad205) t174.length co71 : Value).ownBlock)) (HO220.out) (fun k_ hk => ⟨hk.1.1, hk.1.2⟩))))) (Reps.none _ _))))); intro v222 w77 ho78 hb hg_ hnew_; clear hg_ hnew_
       (first | rw [← Ny221.out] at ho78 | (simp only [Int.reduceToNat] at ho78; rw [← Ny221.out] at ho78))
       replace HO_0 := Aside0.mk (Kd.V_elder' (zV HO_0) (Kd.N_base ho78) hb)
       replace HO_11 := (zRb HO_11 hb)
       replace HO215 := Aside0.mk (Kd.V_elder' (zV HO215) (Kd.N_base ho78) hb); replace HO220 := Aside0.mk (Kd.V_elder' (zV HO220) (Kd.N_base ho78) hb); have HO223 := Aside0.mk (Kd.N_lower ho78 (below_size zb))
       replace HB := (zB hb)
       clear HO210 hb ho78; obtain ⟨Ao79, co79, eo79⟩ := Kd.N_slice HO223.out
       (first | subst eo79 | (injection eo79 with f1_ f2_ f3_; have f4_ := f1_.symm; have f5_ := f3_.symm; clear f1_ f2_ f3_; subst f4_; subst f5_))
       refine hK.out _ _ trivial (fun hHeld => ?_); clear hK K; refine norm_ (a' := ?_) ?_ ?_; rotate_left
       ·show Act.put _ (some 109) _ = _
        simp only [Act.put, List.setIfInBounds_toArray, List.set_cons_zero, List.set_cons_succ, i64_w, i32_w]; rfl
       refine one_ (i := 8) (N := some 110) #[true, true, true, true, true, true, true, true, true, true, true, true, true, true, false, false, false, false] rfl rfl (one_of HT_.out (by kernel_rfl)) (by decide) (fun K hK => ?_); refine goes_ Try.func36 (by kernel_rfl) rfl #[.slice Ao79 y221.length co79] (by rfl) rfl rfl (by (try simp only [List.map_toArray, List.map_cons, List.map_nil]); first | done | rfl | (simp only [List.length_drop, List.length_take]; rfl)) ?_
       with_reducible refine (api_Token_36.calls _ _ y221 t224 _ ?side1 ?side2 A69.out).mono ?_
       (case side1 => repeat (first | exact (Kd.N_reads' HO223.out).2.2 | (with_reducible refine Kd.C_alloc ?_ _) | (with_reducible refine Kd.C_drewN ?_ _) | (with_reducible refine Kd.C_drew ?_)))
       (case side2 => exact (Kd.N_reads' HO223.out).2.1)
       rintro e w80 ⟨v225, rfl, ho0, hb⟩; refine ⟨_, rfl, ?_⟩; replace HO_0 := Aside0.mk (Kd.V_elder' (zV HO_0) (Kd.R_base ho0) hb)
       replace HO_11 := (zRb HO_11 hb)
       replace HO215 := Aside0.mk (Kd.V_elder' (zV HO215) (Kd.R_base ho0) hb); replace HO220 := Aside0.mk (Kd.V_elder' (zV HO220) (Kd.R_base ho0) hb); replace HO223 := Aside0.mk (Kd.N_elder' (by (with_reducible repeat (first | apply Kd.N_alloc | apply Kd.N_drewN | apply Kd.N_drew)); exact HO223.out) (Kd.R_base ho0) hb); have HO226 := Aside0.mk (Kd.R_lower (Kd.R_newM (M := fun k_ => (w.heap.size ≤ k_)) ho0 (below_size zb) (fun k_ h_ => h_)) (below_size zb))
       replace HB := (zB hb)
       (try clear hb)
       (try clear hb2)
       (try clear hk)
       (try clear hi)
       (try clear ho0)
       refine hK.out _ _ trivial (fun hHeld => ?_); clear hK K; refine norm_ (a' := ?_) ?_ ?_; rotate_left
       ·show Act.put _ (some 110) _ = _
        simp only [Act.put, List.setIfInBounds_toArray, List.set_cons_zero, List.set_cons_succ, i64_w, i32_w]; rfl
       refine zp 14 4 HT_ ?_; refine zp 15 5 HT_ ?_; refine zp 16 6 HT_ ?_; refine zp 17 7 HT_ ?_; refine done_ (done_of HT_.out (by kernel_rfl)) ?_
       try go_wp2
       refine bodyPost_ret (results_list (rs := [.tmp 4, .tmp 5, .tmp 6, .tmp 7]) rfl (by simp) (.tmp (.tmp (.tmp (.tmp .nil))))) rfl ?_; exact ⟨_, by first | rfl | (simp [errW_none, errW_some] <;> rfl) | (simp only [← hji24]; first | rfl | (simp [errW_none, errW_some] <;> rfl)) | (simp [*, errW_none, errW_some] <;> rfl), by (with_reducible repeat (first | apply Kd.R_alloc | apply Kd.R_drewN | apply Kd.R_drew)); exact Kd.R_mono HO226.out (fun _ hk => hk.1), zb⟩
  ·rw [if_neg c6] at H; have c6b0 : (t170 == 0) = false := beq_eq_false_iff_ne.mpr c6; have c6b1 : (t170 != 0) = true := bne_iff_ne.mpr c6; simp only [Option.some.injEq, Prod.mk.injEq] at H; obtain ⟨rfl, rfl, rfl, rfl⟩ := H; go_enter Try.func12, Try.ntmps12
   go_wp2_with (first | ((with_reducible refine zG 30 rfl ?_); refine zg 23 Try.func30 ((token_Text.calls k _ _ l0 t167 t168 _ ?side1 ?side2 A3.out).mono ?_); (case side1 => exact zE' (Kd.V_reads' HO0.out).2.2); (case side2 => exact (Kd.V_reads' HO0.out).2.1); rintro e w81 ⟨rfl, hb⟩; refine ⟨_, rfl, ?_⟩; replace HO0 := (zVb HO0 hb); replace HB := (zB hb); (try clear hb); (try clear hb2); (try clear hk); (try clear hi)) | ((with_reducible refine zG 27 rfl ?_); refine zg 32 Try.func27 ((rope_Apply.calls k t167 _ _ l1 t169 t170 _ ?side1 ?side2 A5.out).mono ?_); (case side1 => exact zC HR1); (case side2 => exact HC1.out); rintro e w82 ⟨rfl, hb⟩; refine ⟨_, rfl, ?_⟩; replace HO0 := (zVb HO0 hb); replace HB := (zB hb); (try clear hb); (try clear hb2); (try clear hk); (try clear hi)))
   refine bodyPost_ret (results_list (rs := [.tmp 4, .tmp 5, .tmp 6, .tmp 7]) rfl (by simp) (.tmp (.tmp (.tmp (.tmp .nil))))) rfl ?_; exact ⟨_, zr, by first | exact Kd.R_nil _ _ _ _ _ | exact Kd.N_nil _ _ _ _ _ | exact Kd.V_nil _ _ _ _ _ | exact Kd.Q_nil _ _ _ _ _ | exact Kd.S_nil _ _ _ _ _, zb⟩
 ·rw [if_neg c4] at H; have c4b0 : (t168 == 0) = false := beq_eq_false_iff_ne.mpr c4; have c4b1 : (t168 != 0) = true := bne_iff_ne.mpr c4; simp only [Option.some.injEq, Prod.mk.injEq] at H; obtain ⟨rfl, rfl, rfl, rfl⟩ := H; go_enter Try.func12, Try.ntmps12
  go_wp2_with (first | ((with_reducible refine zG 30 rfl ?_); refine zg 23 Try.func30 ((token_Text.calls k _ _ l0 t167 t168 _ ?side1 ?side2 A3.out).mono ?_); (case side1 => exact zE' (Kd.V_reads' HO0.out).2.2); (case side2 => exact (Kd.V_reads' HO0.out).2.1); rintro e w83 ⟨rfl, hb⟩; refine ⟨_, rfl, ?_⟩; replace HO0 := (zVb HO0 hb); replace HB := (zB hb); (try clear hb); (try clear hb2); (try clear hk); (try clear hi)))
  refine bodyPost_ret (results_list (rs := [.tmp 4, .tmp 5, .tmp 6, .tmp 7]) rfl (by simp) (.tmp (.tmp (.tmp (.tmp .nil))))) rfl ?_; exact ⟨_, zr, by first | exact Kd.R_nil _ _ _ _ _ | exact Kd.N_nil _ _ _ _ _ | exact Kd.V_nil _ _ _ _ _ | exact Kd.Q_nil _ _ _ _ _ | exact Kd.S_nil _ _ _ _ _, zb⟩

end Go.Proofs.Ytahcpappailjgaa.P

namespace Go.Proofs.Ytahcpappailjgaa.P
open Go.RowKit Go.Proofs.YtahcpappailjgaaW.PrintWords Go.Proofs.YtahcpappailjgaaW.PrintLast Go.Proofs.YtahcpappailjgaaW.PrintMore
attribute [local go_sem] max2_int min2_int max_two min_two max_three min_three max_four min_four
set_option linter.unusedVariables false
set_option linter.unusedSimpArgs false

/-! ### marginaliaref03_Blank: function 54 -/
def marginaliaref03_Blank.f (a0 : Int) : Option (Bool) := if a0 = 32 then (some true) else (if a0 = 9 then (some true) else (if a0 = 10 then (some true) else (some (a0 == 13))))
set_option maxHeartbeats 8000000 in
set_option maxRecDepth 100000 in
theorem marginaliaref03_Blank.calls (a0 : Int) (r : Bool) (w : World) (h : marginaliaref03_Blank.f a0 = some r) :
  Calls Try.prog 54 #[.int .u8 a0] w fun e w' => e = .returned (.bool r) ∧ Drawn0 w w' := by
 have H : (if a0 = 32 then (some true) else (if a0 = 9 then (some true) else (if a0 = 10 then (some true) else (some (a0 == 13))))) = some r := h; clear h; by_cases c2 : a0 = 32
 ·rw [if_pos c2] at H; have c2b0 : (a0 == 32) = true := beq_iff_eq.mpr c2; have c2b1 : (a0 != 32) = false := bne_eq_false_iff_eq.mpr c2; clear c2; obtain rfl := Option.some.inj H; go_enter Try.func54, Try.ntmps54; go_wp2; go_ret; exact ⟨zs, zX⟩
 ·rw [if_neg c2] at H; have c2b0 : (a0 == 32) = false := beq_eq_false_iff_ne.mpr c2; have c2b1 : (a0 != 32) = true := bne_iff_ne.mpr c2; by_cases c3 : a0 = 9
  ·rw [if_pos c3] at H; have c3b0 : (a0 == 9) = true := beq_iff_eq.mpr c3; have c3b1 : (a0 != 9) = false := bne_eq_false_iff_eq.mpr c3; clear c3; obtain rfl := Option.some.inj H; go_enter Try.func54, Try.ntmps54; go_wp2; go_ret; exact ⟨zs, zX⟩
  ·rw [if_neg c3] at H; have c3b0 : (a0 == 9) = false := beq_eq_false_iff_ne.mpr c3; have c3b1 : (a0 != 9) = true := bne_iff_ne.mpr c3; by_cases c4 : a0 = 10
   ·rw [if_pos c4] at H; have c4b0 : (a0 == 10) = true := beq_iff_eq.mpr c4; have c4b1 : (a0 != 10) = false := bne_eq_false_iff_eq.mpr c4; clear c4; obtain rfl := Option.some.inj H; go_enter Try.func54, Try.ntmps54; go_wp2; go_ret; exact ⟨zs, zX⟩
   ·rw [if_neg c4] at H; have c4b0 : (a0 == 10) = false := beq_eq_false_iff_ne.mpr c4; have c4b1 : (a0 != 10) = true := bne_iff_ne.mpr c4; obtain rfl := Option.some.inj H; go_enter Try.func54, Try.ntmps54; go_wp2; go_ret; exact ⟨zs, zX⟩

/-! ### marginaliaref03_remark: function 55 -/
def marginaliaref03_remark.f (a0 : ByteArray) (a1 : Int) : Option (Bool) := if (wrap64 (a1 + 1)) < (a0.size : Int) then (if 0 ≤ a1 then (if a1 < (a0.size : Int) then (if (bt a0 a1) = 47 then (if 0 ≤ (wrap64 (a1 + 1)) then (some ((bt a0 (wrap64 (a1 + 1))) == 47)) else (none)) else (some false)) else (none)) else (none)) else (some false)
set_option maxHeartbeats 8000000 in
set_option maxRecDepth 100000 in
theorem marginaliaref03_remark.calls (a0 : ByteArray) (a1 : Int) (r : Bool) (w : World) (h : marginaliaref03_remark.f a0 a1 = some r) :
  Calls Try.prog 55 #[.string a0, .int .i64 a1] w fun e w' => e = .returned (.bool r) ∧ Drawn0 w w' := by
 have H : (if (wrap64 (a1 + 1)) < (a0.size : Int) then (if 0 ≤ a1 then (if a1 < (a0.size : Int) then (if (bt a0 a1) = 47 then (if 0 ≤ (wrap64 (a1 + 1)) then (some ((bt a0 (wrap64 (a1 + 1))) == 47)) else (none)) else (some false)) else (none)) else (none)) else (some false)) = some r := h; clear h; by_cases c3 : (wrap64 (a1 + 1)) < (a0.size : Int)
 ·rw [if_pos c3] at H; have c3b0 := decide_eq_true c3; clear c3; replace H := zi1 H; obtain ⟨c4b0, H⟩ := H; replace H := zi1 H; obtain ⟨c5b0, H⟩ := H; by_cases c7 : (bt a0 a1) = 47
  ·rw [if_pos c7] at H; have c7b0 : ((bt a0 a1) == 47) = true := beq_iff_eq.mpr c7; have c7b1 : ((bt a0 a1) != 47) = false := bne_eq_false_iff_eq.mpr c7; clear c7
   obtain ⟨ji8, hji8⟩ : ∃ j_ : Int, (wrap64 (a1 + 1)) = j_ := ⟨_, rfl⟩
   replace H : (if 0 ≤ (ji8) then (some ((bt a0 (ji8)) == 47)) else (none)) = some r := by first | (rw [hji8] at H; exact H) | (simp only [hji8] at H ⊢; exact H)
   (try rw [hji8] at c3b0)
   have hji8w : (IntKind.i64.wrap (a1 + 1)) = ji8 := (i64_w _).trans hji8; replace H := zi1 H; obtain ⟨c9b0, H⟩ := H; obtain rfl := Option.some.inj H; have p6 : (0 ≤ (a1 : Int)) = True := zT; have q6 : (a1 < (a0.size : Int)) = True := zT; have hx6 := bt_at a0 a1; have p10 : (0 ≤ ((ji8) : Int)) = True := zT; have q10 : ((ji8) < (a0.size : Int)) = True := zT; have hx10 := bt_at a0 (ji8); go_enter Try.func55, Try.ntmps55; go_wp2; go_ret; exact ⟨by first | rfl | (simp; done) | (simp only [← hji8] <;> (first | rfl | simp)) | (simp [*]; done), zX⟩
  ·rw [if_neg c7] at H; have c7b0 : ((bt a0 a1) == 47) = false := beq_eq_false_iff_ne.mpr c7; have c7b1 : ((bt a0 a1) != 47) = true := bne_iff_ne.mpr c7; obtain rfl := Option.some.inj H; have p6 : (0 ≤ (a1 : Int)) = True := zT; have q6 : (a1 < (a0.size : Int)) = True := zT; have hx6 := bt_at a0 a1; go_enter Try.func55, Try.ntmps55; go_wp2; go_ret; exact ⟨zs, zX⟩
 ·rw [if_neg c3] at H; have c3b0 := decide_eq_false c3; clear c3; obtain rfl := Option.some.inj H; go_enter Try.func55, Try.ntmps55; go_wp2; go_ret; exact ⟨zs, zX⟩

/-! ### marginaliaref03_line: function 56 -/
def marginaliaref03_line.l0 : Nat → ByteArray → Int → Option (Int)
 | 0, _, _ => none
 | k + 1, x0, x1 => if x1 < (x0.size : Int) then (if 0 ≤ x1 then (if (bt x0 x1) = 10 then (some x1) else (marginaliaref03_line.l0 k x0 (wrap64 (x1 + 1)))) else (none)) else (some x1)
def marginaliaref03_line.f (k : Nat) (a0 : ByteArray) (a1 : Int) : Option (Int) := marginaliaref03_line.l0 k a0 a1
theorem marginaliaref03_line.mono_l : ∀ k, (∀ y0 y1, LeO (marginaliaref03_line.l0 k y0 y1) (marginaliaref03_line.l0 (k + 1) y0 y1))
 | 0 => fun _ _ r h => by simp [marginaliaref03_line.l0] at h
 | k + 1 => by
  have ih0 := marginaliaref03_line.mono_l k
  (intro y0 y1; unfold marginaliaref03_line.l0); rotate_left
  all_goals repeat' first | (with_reducible exact ih0 _ _) | (with_reducible exact LeO.refl _) | (with_reducible exact LeO.none _) | (with_reducible refine LeO.ite ?_ ?_) | (with_reducible refine LeO.bind ?_ (fun _ => ?_)) | exact ih0 _ _ | exact LeO.none _ | refine LeO.ite ?_ ?_ | refine LeO.bind ?_ (fun _ => ?_)
theorem marginaliaref03_line.mono : ∀ a0 a1 k, LeO (marginaliaref03_line.f k a0 a1) (marginaliaref03_line.f (k + 1) a0 a1) := by
 intro a0 a1 k; have ih0 := marginaliaref03_line.mono_l k; unfold marginaliaref03_line.f
 repeat' first
   | (with_reducible exact ih0 _ _)
   | (with_reducible exact LeO.refl _)
   | (with_reducible exact LeO.none _)
   | (with_reducible refine LeO.ite ?_ ?_)
   | (with_reducible refine LeO.bind ?_ (fun _ => ?_))
   | exact ih0 _ _
   | exact LeO.none _
   | refine LeO.ite ?_ ?_
   | refine LeO.bind ?_ (fun _ => ?_)
set_option maxHeartbeats 8000000 in
set_option maxRecDepth 100000 in
theorem marginaliaref03_line.calls (k : Nat) (a0 : ByteArray) (a1 : Int) (r : Int) (w : World) (h : marginaliaref03_line.f k a0 a1 = some r) :
  Calls Try.prog 56 #[.string a0, .int .i64 a1] w fun e w' => e = .returned (.int .i64 r) ∧ Drawn0 w w' := by
 have H : (marginaliaref03_line.l0 k a0 a1) = some r := h; clear h; have H' := Aside0.mk H; clear H; go_enter Try.func56, Try.ntmps56; go_wp2
 go_loopg [1] k (fun kq v1 w' => ∃ (x1_1 : Int), v1 = .int .i64 x1_1 ∧ Aside0 (marginaliaref03_line.l0 kq a0 x1_1 = some r) ∧ Aside0 (kq ≤ k) ∧ Drawn0 w w')
 case atStart => exact ⟨(a1), zs, H', ⟨Nat.le_refl _⟩, zX⟩
 case round =>
  clear H'; obtain ⟨x1_1, rfl, HA, HK1, ⟨m1, rfl⟩⟩ := hrel
  cases gk with
  | zero => exact absurd HA.out (by simp [marginaliaref03_line.l0])
  | succ k1 =>
   have H := HA.out; clear HA; simp only [marginaliaref03_line.l0] at H; by_cases c3 : x1_1 < (a0.size : Int)
   ·rw [if_pos c3] at H; have c3b0 := decide_eq_true c3; clear c3; replace H := zi1 H; obtain ⟨c4b0, H⟩ := H; by_cases c6 : (bt a0 x1_1) = 10
    ·rw [if_pos c6] at H; have c6b0 : ((bt a0 x1_1) == 10) = true := beq_iff_eq.mpr c6; have c6b1 : ((bt a0 x1_1) != 10) = false := bne_eq_false_iff_eq.mpr c6; clear c6; obtain rfl := Option.some.inj H; have p5 : (0 ≤ (x1_1 : Int)) = True := zT; have q5 : (x1_1 < (a0.size : Int)) = True := zT; have hx5 := bt_at a0 x1_1; go_wp2; go_ret; exact ⟨zs, zX⟩
    ·rw [if_neg c6] at H; have c6b0 : ((bt a0 x1_1) == 10) = false := beq_eq_false_iff_ne.mpr c6; have c6b1 : ((bt a0 x1_1) != 10) = true := bne_iff_ne.mpr c6; have H' := Aside0.mk H; clear H; have p5 : (0 ≤ (x1_1 : Int)) = True := zT; have q5 : (x1_1 < (a0.size : Int)) = True := zT; have hx5 := bt_at a0 x1_1; go_wp2
     go_roundg k1
     case measure => have := HK1.out; omega
     case rel => exact ⟨(wrap64 (x1_1 + 1)), zs, H', zk, zX⟩
   ·rw [if_neg c3] at H; have c3b0 := decide_eq_false c3; clear c3; obtain rfl := Option.some.inj H; go_wp2; go_ret; exact ⟨zs, zX⟩

/-! ### marginaliaref03_Letter: function 57 -/
def marginaliaref03_Letter.f (a0 : Int) : Option (Bool) := if a0 ≥ 97 then (if a0 ≤ 122 then (some true) else (if a0 ≥ 65 then (if a0 ≤ 90 then (some true) else (some (a0 == 95))) else (some (a0 == 95)))) else (if a0 ≥ 65 then (if a0 ≤ 90 then (some true) else (some (a0 == 95))) else (some (a0 == 95)))
set_option maxHeartbeats 8000000 in
set_option maxRecDepth 100000 in
theorem marginaliaref03_Letter.calls (a0 : Int) (r : Bool) (w : World) (h : marginaliaref03_Letter.f a0 = some r) :
  Calls Try.prog 57 #[.int .u8 a0] w fun e w' => e = .returned (.bool r) ∧ Drawn0 w w' := by
 have H : (if a0 ≥ 97 then (if a0 ≤ 122 then (some true) else (if a0 ≥ 65 then (if a0 ≤ 90 then (some true) else (some (a0 == 95))) else (some (a0 == 95)))) else (if a0 ≥ 65 then (if a0 ≤ 90 then (some true) else (some (a0 == 95))) else (some (a0 == 95)))) = some r := h; clear h; by_cases c2 : a0 ≥ 97
 ·rw [if_pos c2] at H; have c2b0 := decide_eq_true c2; clear c2; by_cases c3 : a0 ≤ 122
  ·rw [if_pos c3] at H; have c3b0 := decide_eq_true c3; clear c3; obtain rfl := Option.some.inj H; go_enter Try.func57, Try.ntmps57; go_wp2; go_ret; exact ⟨zs, zX⟩
  ·rw [if_neg c3] at H; have c3b0 := decide_eq_false c3; clear c3; by_cases c4 : a0 ≥ 65
   ·rw [if_pos c4] at H; have c4b0 := decide_eq_true c4; clear c4; by_cases c5 : a0 ≤ 90
    ·rw [if_pos c5] at H; have c5b0 := decide_eq_true c5; clear c5; obtain rfl := Option.some.inj H; go_enter Try.func57, Try.ntmps57; go_wp2; go_ret; exact ⟨zs, zX⟩
    ·rw [if_neg c5] at H; have c5b0 := decide_eq_false c5; clear c5; obtain rfl := Option.some.inj H; go_enter Try.func57, Try.ntmps57; go_wp2; go_ret; exact ⟨zs, zX⟩
   ·rw [if_neg c4] at H; have c4b0 := decide_eq_false c4; clear c4; obtain rfl := Option.some.inj H; go_enter Try.func57, Try.ntmps57; go_wp2; go_ret; exact ⟨zs, zX⟩
 ·rw [if_neg c2] at H; have c2b0 := decide_eq_false c2; clear c2; by_cases c6 : a0 ≥ 65
  ·rw [if_pos c6] at H; have c6b0 := decide_eq_true c6; clear c6; by_cases c7 : a0 ≤ 90
   ·rw [if_pos c7] at H; have c7b0 := decide_eq_true c7; clear c7; obtain rfl := Option.some.inj H; go_enter Try.func57, Try.ntmps57; go_wp2; go_ret; exact ⟨zs, zX⟩
   ·rw [if_neg c7] at H; have c7b0 := decide_eq_false c7; clear c7; obtain rfl := Option.some.inj H; go_enter Try.func57, Try.ntmps57; go_wp2; go_ret; exact ⟨zs, zX⟩
  ·rw [if_neg c6] at H; have c6b0 := decide_eq_false c6; clear c6; obtain rfl := Option.some.inj H; go_enter Try.func57, Try.ntmps57; go_wp2; go_ret; exact ⟨zs, zX⟩

/-! ### marginaliaref03_Digit: function 58 -/
def marginaliaref03_Digit.f (a0 : Int) : Option (Bool) := if a0 ≥ 48 then (some (decide (a0 ≤ 57))) else (some false)
set_option maxHeartbeats 8000000 in
set_option maxRecDepth 100000 in
theorem marginaliaref03_Digit.calls (a0 : Int) (r : Bool) (w : World) (h : marginaliaref03_Digit.f a0 = some r) :
  Calls Try.prog 58 #[.int .u8 a0] w fun e w' => e = .returned (.bool r) ∧ Drawn0 w w' := by
 have H : (if a0 ≥ 48 then (some (decide (a0 ≤ 57))) else (some false)) = some r := h; clear h; by_cases c2 : a0 ≥ 48
 ·rw [if_pos c2] at H; have c2b0 := decide_eq_true c2; clear c2; obtain rfl := Option.some.inj H; go_enter Try.func58, Try.ntmps58; go_wp2; go_ret; exact ⟨zs, zX⟩
 ·rw [if_neg c2] at H; have c2b0 := decide_eq_false c2; clear c2; obtain rfl := Option.some.inj H; go_enter Try.func58, Try.ntmps58; go_wp2; go_ret; exact ⟨zs, zX⟩

/-! ### marginaliaref03_has: function 59 -/
def marginaliaref03_has.l0 : Nat → List ByteArray → ByteArray → Int → Option (Bool)
 | 0, _, _, _ => none
 | k + 1, x0, x1, x5 => if x5 < (x0.length : Int) then (if 0 ≤ x5 then (if (rdOf ByteArray.empty x0 x5).toList = x1.toList then (some true) else (marginaliaref03_has.l0 k x0 x1 (wrap64 (x5 + 1)))) else (none)) else (some false)
def marginaliaref03_has.f (k : Nat) (l0 : List ByteArray) (a1 : ByteArray) : Option (Bool) := marginaliaref03_has.l0 k l0 a1 0
theorem marginaliaref03_has.mono_l : ∀ k, (∀ y0 y1 y2, LeO (marginaliaref03_has.l0 k y0 y1 y2) (marginaliaref03_has.l0 (k + 1) y0 y1 y2))
 | 0 => fun _ _ _ r h => by simp [marginaliaref03_has.l0] at h
 | k + 1 => by
  have ih0 := marginaliaref03_has.mono_l k
  (intro y0 y1 y2; unfold marginaliaref03_has.l0); rotate_left
  all_goals repeat' first | (with_reducible exact ih0 _ _ _) | (with_reducible exact LeO.refl _) | (with_reducible exact LeO.none _) | (with_reducible refine LeO.ite ?_ ?_) | (with_reducible refine LeO.bind ?_ (fun _ => ?_)) | exact ih0 _ _ _ | exact LeO.none _ | refine LeO.ite ?_ ?_ | refine LeO.bind ?_ (fun _ => ?_)
theorem marginaliaref03_has.mono : ∀ a0 a1 k, LeO (marginaliaref03_has.f k a0 a1) (marginaliaref03_has.f (k + 1) a0 a1) := by
 intro a0 a1 k; have ih0 := marginaliaref03_has.mono_l k; unfold marginaliaref03_has.f
 repeat' first
   | (with_reducible exact ih0 _ _ _)
   | (with_reducible exact LeO.refl _)
   | (with_reducible exact LeO.none _)
   | (with_reducible refine LeO.ite ?_ ?_)
   | (with_reducible refine LeO.bind ?_ (fun _ => ?_))
   | exact ih0 _ _ _
   | exact LeO.none _
   | refine LeO.ite ?_ ?_
   | refine LeO.bind ?_ (fun _ => ?_)
set_option maxHeartbeats 8000000 in
set_option maxRecDepth 100000 in
theorem marginaliaref03_has.calls (k : Nat) (A0 : Option Addr) (c0 : Nat) (l0 : List ByteArray) (a1 : ByteArray) (r : Bool) (w : World) (hr0 : Kd.C Kd.string w A0 l0.length l0) (hc0 : l0.length ≤ c0) (h : marginaliaref03_has.f k l0 a1 = some r) :
  Calls Try.prog 59 #[.slice A0 l0.length c0, .string a1] w fun e w' => e = .returned (.bool r) ∧ Drawn0 w w' := by
 have HR0 := Aside0.mk hr0; have HC0 := Aside0.mk hc0; clear hr0 hc0; have H : (marginaliaref03_has.l0 k l0 a1 0) = some r := h; clear h; have H' := Aside0.mk H; clear H; go_enter Try.func59, Try.ntmps59; go_wp2
 go_loopg [5] k (fun kq v5 w' => ∃ (x5_1 : Int), v5 = .int .i64 x5_1 ∧ Aside0 (marginaliaref03_has.l0 kq l0 a1 x5_1 = some r) ∧ Aside0 (kq ≤ k) ∧ Drawn0 w w')
 case atStart => exact ⟨(0), zs, H', ⟨Nat.le_refl _⟩, zX⟩
 case round =>
  clear H'; obtain ⟨x5_1, rfl, HA, HK1, ⟨m1, rfl⟩⟩ := hrel
  cases gk with
  | zero => exact absurd HA.out (by simp [marginaliaref03_has.l0])
  | succ k1 =>
   have H := HA.out; clear HA; simp only [marginaliaref03_has.l0] at H; by_cases c3 : x5_1 < (l0.length : Int)
   ·rw [if_pos c3] at H; have c3b0 := decide_eq_true c3; clear c3; replace H := zi1 H; obtain ⟨c4b0, H⟩ := H; by_cases c5 : (rdOf ByteArray.empty l0 x5_1).toList = a1.toList
    ·rw [if_pos c5] at H; have c5b0 : ((rdOf ByteArray.empty l0 x5_1).toList == a1.toList) = true := beq_iff_eq.mpr c5; have c5b1 : ((rdOf ByteArray.empty l0 x5_1).toList != a1.toList) = false := bne_eq_false_iff_eq.mpr c5; clear c5; obtain rfl := Option.some.inj H; have p227 : 0 ≤ (x5_1 : Int) := zt; have q227 : x5_1 < (l0.length : Int) := zt; obtain ⟨ad227, e227, hx227_0⟩ := Kd.at_string HR0.out x5_1 p227 q227
     cases e227
     replace p227 := eq_true p227; replace q227 := eq_true q227; go_wp2; go_ret; exact ⟨zs, zX⟩
    ·rw [if_neg c5] at H; have c5b0 : ((rdOf ByteArray.empty l0 x5_1).toList == a1.toList) = false := beq_eq_false_iff_ne.mpr c5; have c5b1 : ((rdOf ByteArray.empty l0 x5_1).toList != a1.toList) = true := bne_iff_ne.mpr c5; have H' := Aside0.mk H; clear H; have p227 : 0 ≤ (x5_1 : Int) := zt; have q227 : x5_1 < (l0.length : Int) := zt; obtain ⟨ad227, e227, hx227_0⟩ := Kd.at_string HR0.out x5_1 p227 q227
     cases e227
     replace p227 := eq_true p227; replace q227 := eq_true q227; go_wp2
     go_roundg k1
     case measure => have := HK1.out; omega
     case rel => exact ⟨(wrap64 (x5_1 + 1)), zs, H', zk, zX⟩
   ·rw [if_neg c3] at H; have c3b0 := decide_eq_false c3; clear c3; obtain rfl := Option.some.inj H; go_wp2; go_ret; exact ⟨zs, zX⟩

/-! ### marginaliaref03_Words: function 60 -/
def marginaliaref03_Words.f  : Option (List ByteArray) := some (([(⟨#[100, 101, 102]⟩ : ByteArray), (⟨#[101, 108, 115, 101]⟩ : ByteArray), (⟨#[102, 97, 108, 115, 101]⟩ : ByteArray), (⟨#[102, 110]⟩ : ByteArray), (⟨#[105, 102]⟩ : ByteArray), (⟨#[105, 109, 112, 111, 114, 116]⟩ : ByteArray), (⟨#[105, 110]⟩ : ByteArray), (⟨#[108, 101, 116]⟩ : ByteArray), (⟨#[109, 97, 116, 99, 104]⟩ : ByteArray), (⟨#[116, 104, 101, 110]⟩ : ByteArray), (⟨#[116, 114, 117, 101]⟩ : ByteArray), (⟨#[116, 121, 112, 101]⟩ : ByteArray)] : List ByteArray))
set_option maxHeartbeats 8000000 in
set_option maxRecDepth 100000 in
theorem marginaliaref03_Words.calls  (r : List ByteArray) (w : World) (h : marginaliaref03_Words.f  = some r) :
  Calls Try.prog 60 #[] w fun e w' => ∃ v0_ : Value, e = .returned (v0_) ∧ Kd.R Kd.string 9 w' w.heap.size (fun _ => True) v0_ r ∧ Below w.heap.size w w' := by
 have HB := Aside0.mk (Below.refl w.heap.size w); have H : (some (([(⟨#[100, 101, 102]⟩ : ByteArray), (⟨#[101, 108, 115, 101]⟩ : ByteArray), (⟨#[102, 97, 108, 115, 101]⟩ : ByteArray), (⟨#[102, 110]⟩ : ByteArray), (⟨#[105, 102]⟩ : ByteArray), (⟨#[105, 109, 112, 111, 114, 116]⟩ : ByteArray), (⟨#[105, 110]⟩ : ByteArray), (⟨#[108, 101, 116]⟩ : ByteArray), (⟨#[109, 97, 116, 99, 104]⟩ : ByteArray), (⟨#[116, 104, 101, 110]⟩ : ByteArray), (⟨#[116, 114, 117, 101]⟩ : ByteArray), (⟨#[116, 121, 112, 101]⟩ : ByteArray)] : List ByteArray))) = some r := h; clear h
 obtain ⟨y228, hy228⟩ : ∃ y_ : List ByteArray, y_ = (([(⟨#[100, 101, 102]⟩ : ByteArray), (⟨#[101, 108, 115, 101]⟩ : ByteArray), (⟨#[102, 97, 108, 115, 101]⟩ : ByteArray), (⟨#[102, 110]⟩ : ByteArray), (⟨#[105, 102]⟩ : ByteArray), (⟨#[105, 109, 112, 111, 114, 116]⟩ : ByteArray), (⟨#[105, 110]⟩ : ByteArray), (⟨#[108, 101, 116]⟩ : ByteArray), (⟨#[109, 97, 116, 99, 104]⟩ : ByteArray), (⟨#[116, 104, 101, 110]⟩ : ByteArray), (⟨#[116, 114, 117, 101]⟩ : ByteArray), (⟨#[116, 121, 112, 101]⟩ : ByteArray)] : List ByteArray)) := ⟨_, rfl⟩
 replace H : (some y228) = some r := by first | (rw [hy228]; with_reducible exact H) | (have H2_ := (Option.bind_some _ _).symm.trans H; rw [hy228]; with_reducible exact H2_) | (have H2_ := (Option.bind_some _ _).symm.trans H; with_reducible exact H2_) | with_reducible exact H | (rw [hy228]; exact H) | exact H
 have Ny228 := Aside0.mk hy228; clear hy228; obtain rfl := Option.some.inj H; go_enter Try.func60, Try.ntmps60
 go_wp2_with (first | ((with_reducible refine zD 1 rfl ?_); refine Kd.R_lit Kd.string _ 9 ?hg (N := 1) ?hd (xs := ([(⟨#[100, 101, 102]⟩ : ByteArray), (⟨#[101, 108, 115, 101]⟩ : ByteArray), (⟨#[102, 97, 108, 115, 101]⟩ : ByteArray), (⟨#[102, 110]⟩ : ByteArray), (⟨#[105, 102]⟩ : ByteArray), (⟨#[105, 109, 112, 111, 114, 116]⟩ : ByteArray), (⟨#[105, 110]⟩ : ByteArray), (⟨#[108, 101, 116]⟩ : ByteArray), (⟨#[109, 97, 116, 99, 104]⟩ : ByteArray), (⟨#[116, 104, 101, 110]⟩ : ByteArray), (⟨#[116, 114, 117, 101]⟩ : ByteArray), (⟨#[116, 121, 112, 101]⟩ : ByteArray)] : List ByteArray)) (inner := [.string (⟨#[100, 101, 102]⟩ : ByteArray), .string (⟨#[101, 108, 115, 101]⟩ : ByteArray), .string (⟨#[102, 97, 108, 115, 101]⟩ : ByteArray), .string (⟨#[102, 110]⟩ : ByteArray), .string (⟨#[105, 102]⟩ : ByteArray), .string (⟨#[105, 109, 112, 111, 114, 116]⟩ : ByteArray), .string (⟨#[105, 110]⟩ : ByteArray), .string (⟨#[108, 101, 116]⟩ : ByteArray), .string (⟨#[109, 97, 116, 99, 104]⟩ : ByteArray), .string (⟨#[116, 104, 101, 110]⟩ : ByteArray), .string (⟨#[116, 114, 117, 101]⟩ : ByteArray), .string (⟨#[116, 121, 112, 101]⟩ : ByteArray)]) (ok := fun _ => True) (okp := fun _ => True) ?hr ?hp (fun _ hk => hk) trivial (Below.refl _ _) (Nat.le_refl _) (by simp) ?_; (case hd => rfl); (case hg => rfl); (case hr => first | (go_simp; done) | (go_simp; rfl)); (case hp => exact (Reps.one (show Kd.M Kd.string _ _ _ (⟨#[100, 101, 102]⟩ : ByteArray) [.string (⟨#[100, 101, 102]⟩ : ByteArray)] from rfl) (Reps.one (show Kd.M Kd.string _ _ _ (⟨#[101, 108, 115, 101]⟩ : ByteArray) [.string (⟨#[101, 108, 115, 101]⟩ : ByteArray)] from rfl) (Reps.one (show Kd.M Kd.string _ _ _ (⟨#[102, 97, 108, 115, 101]⟩ : ByteArray) [.string (⟨#[102, 97, 108, 115, 101]⟩ : ByteArray)] from rfl) (Reps.one (show Kd.M Kd.string _ _ _ (⟨#[102, 110]⟩ : ByteArray) [.string (⟨#[102, 110]⟩ : ByteArray)] from rfl) (Reps.one (show Kd.M Kd.string _ _ _ (⟨#[105, 102]⟩ : ByteArray) [.string (⟨#[105, 102]⟩ : ByteArray)] from rfl) (Reps.one (show Kd.M Kd.string _ _ _ (⟨#[105, 109, 112, 111, 114, 116]⟩ : ByteArray) [.string (⟨#[105, 109, 112, 111, 114, 116]⟩ : ByteArray)] from rfl) (Reps.one (show Kd.M Kd.string _ _ _ (⟨#[105, 110]⟩ : ByteArray) [.string (⟨#[105, 110]⟩ : ByteArray)] from rfl) (Reps.one (show Kd.M Kd.string _ _ _ (⟨#[108, 101, 116]⟩ : ByteArray) [.string (⟨#[108, 101, 116]⟩ : ByteArray)] from rfl) (Reps.one (show Kd.M Kd.string _ _ _ (⟨#[109, 97, 116, 99, 104]⟩ : ByteArray) [.string (⟨#[109, 97, 116, 99, 104]⟩ : ByteArray)] from rfl) (Reps.one (show Kd.M Kd.string _ _ _ (⟨#[116, 104, 101, 110]⟩ : ByteArray) [.string (⟨#[116, 104, 101, 110]⟩ : ByteArray)] from rfl) (Reps.one (show Kd.M Kd.string _ _ _ (⟨#[116, 114, 117, 101]⟩ : ByteArray) [.string (⟨#[116, 114, 117, 101]⟩ : ByteArray)] from rfl) (Reps.one (show Kd.M Kd.string _ _ _ (⟨#[116, 121, 112, 101]⟩ : ByteArray) [.string (⟨#[116, 121, 112, 101]⟩ : ByteArray)] from rfl) (Reps.none _ _)))))))))))))); intro v229 w1 ho2 hb hg_ hnew_; clear hg_ hnew_; (first | rw [← Ny228.out] at ho2 | (simp only [Int.reduceToNat] at ho2; rw [← Ny228.out] at ho2)); have HO230 := Aside0.mk (Kd.R_lower ho2 (below_size zb)); replace HB := (zB hb); clear hb ho2))
 go_ret; exact ⟨_, zr, by (with_reducible repeat (first | apply Kd.R_alloc | apply Kd.R_drewN | apply Kd.R_drew)); exact HO230.out, zb⟩

/-! ### marginaliaref03_quoted: function 61 -/
def marginaliaref03_quoted.l0 : Nat → ByteArray → Int → Option (Int)
 | 0, _, _ => none
 | k + 1, x0, x5 => if x5 < (x0.size : Int) then (if 0 ≤ x5 then (if (bt x0 x5) = 34 then (some (wrap64 (x5 + 1))) else (if (bt x0 x5) = 10 then (some 0) else (if (bt x0 x5) = 92 then (if (wrap64 (x5 + 1)) = (x0.size : Int) then (some 0) else (if 0 ≤ (wrap64 (x5 + 1)) then (if (wrap64 (x5 + 1)) < (x0.size : Int) then (if (bt x0 (wrap64 (x5 + 1))) = 110 then (marginaliaref03_quoted.l0 k x0 (wrap64 ((wrap64 (x5 + 1)) + 1))) else (if (bt x0 (wrap64 (x5 + 1))) = 34 then (marginaliaref03_quoted.l0 k x0 (wrap64 ((wrap64 (x5 + 1)) + 1))) else (if (bt x0 (wrap64 (x5 + 1))) = 92 then (marginaliaref03_quoted.l0 k x0 (wrap64 ((wrap64 (x5 + 1)) + 1))) else (some 0)))) else (none)) else (none))) else (marginaliaref03_quoted.l0 k x0 (wrap64 (x5 + 1)))))) else (none)) else (some 0)
def marginaliaref03_quoted.f (k : Nat) (a0 : ByteArray) (a1 : Int) : Option (Int) := marginaliaref03_quoted.l0 k a0 (wrap64 (a1 + 1))
theorem marginaliaref03_quoted.mono_l : ∀ k, (∀ y0 y1, LeO (marginaliaref03_quoted.l0 k y0 y1) (marginaliaref03_quoted.l0 (k + 1) y0 y1))
 | 0 => fun _ _ r h => by simp [marginaliaref03_quoted.l0] at h
 | k + 1 => by
  have ih0 := marginaliaref03_quoted.mono_l k
  (intro y0 y1; unfold marginaliaref03_quoted.l0); rotate_left
  all_goals repeat' first | (with_reducible exact ih0 _ _) | (with_reducible exact LeO.refl _) | (with_reducible exact LeO.none _) | (with_reducible refine LeO.ite ?_ ?_) | (with_reducible refine LeO.bind ?_ (fun _ => ?_)) | exact ih0 _ _ | exact LeO.none _ | refine LeO.ite ?_ ?_ | refine LeO.bind ?_ (fun _ => ?_)
theorem marginaliaref03_quoted.mono : ∀ a0 a1 k, LeO (marginaliaref03_quoted.f k a0 a1) (marginaliaref03_quoted.f (k + 1) a0 a1) := by
 intro a0 a1 k; have ih0 := marginaliaref03_quoted.mono_l k; unfold marginaliaref03_quoted.f
 repeat' first
   | (with_reducible exact ih0 _ _)
   | (with_reducible exact LeO.refl _)
   | (with_reducible exact LeO.none _)
   | (with_reducible refine LeO.ite ?_ ?_)
   | (with_reducible refine LeO.bind ?_ (fun _ => ?_))
   | exact ih0 _ _
   | exact LeO.none _
   | refine LeO.ite ?_ ?_
   | refine LeO.bind ?_ (fun _ => ?_)
set_option maxHeartbeats 8000000 in
set_option maxRecDepth 100000 in
theorem marginaliaref03_quoted.calls (k : Nat) (a0 : ByteArray) (a1 : Int) (r : Int) (w : World) (h : marginaliaref03_quoted.f k a0 a1 = some r) :
  Calls Try.prog 61 #[.string a0, .int .i64 a1] w fun e w' => e = .returned (.int .i64 r) ∧ Drawn0 w w' := by
 have H : (marginaliaref03_quoted.l0 k a0 (wrap64 (a1 + 1))) = some r := h; clear h; have H' := Aside0.mk H; clear H; go_enter Try.func61, Try.ntmps61; go_wp2
 go_loopg [5] k (fun kq v5 w' => ∃ (x5_1 : Int), v5 = .int .i64 x5_1 ∧ Aside0 (marginaliaref03_quoted.l0 kq a0 x5_1 = some r) ∧ Aside0 (kq ≤ k) ∧ Drawn0 w w')
 case atStart => exact ⟨(wrap64 (a1 + 1)), zs, H', ⟨Nat.le_refl _⟩, zX⟩
 case round =>
  clear H'; obtain ⟨x5_1, rfl, HA, HK1, ⟨m1, rfl⟩⟩ := hrel
  cases gk with
  | zero => exact absurd HA.out (by simp [marginaliaref03_quoted.l0])
  | succ k1 =>
   have H := HA.out; clear HA; simp only [marginaliaref03_quoted.l0] at H; by_cases c3 : x5_1 < (a0.size : Int)
   ·rw [if_pos c3] at H; have c3b0 := decide_eq_true c3; clear c3; replace H := zi1 H; obtain ⟨c4b0, H⟩ := H; by_cases c6 : (bt a0 x5_1) = 34
    ·rw [if_pos c6] at H; have c6b0 : ((bt a0 x5_1) == 34) = true := beq_iff_eq.mpr c6; have c6b1 : ((bt a0 x5_1) != 34) = false := bne_eq_false_iff_eq.mpr c6; clear c6; obtain rfl := Option.some.inj H; have p5 : (0 ≤ (x5_1 : Int)) = True := zT; have q5 : (x5_1 < (a0.size : Int)) = True := zT; have hx5 := bt_at a0 x5_1; go_wp2; go_ret; exact ⟨zs, zX⟩
    ·rw [if_neg c6] at H; have c6b0 : ((bt a0 x5_1) == 34) = false := beq_eq_false_iff_ne.mpr c6; have c6b1 : ((bt a0 x5_1) != 34) = true := bne_iff_ne.mpr c6; by_cases c7 : (bt a0 x5_1) = 10
     ·rw [if_pos c7] at H; have c7b0 : ((bt a0 x5_1) == 10) = true := beq_iff_eq.mpr c7; have c7b1 : ((bt a0 x5_1) != 10) = false := bne_eq_false_iff_eq.mpr c7; clear c7; obtain rfl := Option.some.inj H; have p5 : (0 ≤ (x5_1 : Int)) = True := zT; have q5 : (x5_1 < (a0.size : Int)) = True := zT; have hx5 := bt_at a0 x5_1; go_wp2; go_ret; exact ⟨zs, zX⟩
     ·rw [if_neg c7] at H; have c7b0 : ((bt a0 x5_1) == 10) = false := beq_eq_false_iff_ne.mpr c7; have c7b1 : ((bt a0 x5_1) != 10) = true := bne_iff_ne.mpr c7; by_cases c8 : (bt a0 x5_1) = 92
      ·rw [if_pos c8] at H; have c8b0 : ((bt a0 x5_1) == 92) = true := beq_iff_eq.mpr c8; have c8b1 : ((bt a0 x5_1) != 92) = false := bne_eq_false_iff_eq.mpr c8; clear c8; by_cases c9 : (wrap64 (x5_1 + 1)) = (a0.size : Int)
       ·rw [if_pos c9] at H; have c9b0 : ((wrap64 (x5_1 + 1)) == (a0.size : Int)) = true := beq_iff_eq.mpr c9; have c9b1 : ((wrap64 (x5_1 + 1)) != (a0.size : Int)) = false := bne_eq_false_iff_eq.mpr c9; clear c9; obtain rfl := Option.some.inj H; have p5 : (0 ≤ (x5_1 : Int)) = True := zT; have q5 : (x5_1 < (a0.size : Int)) = True := zT; have hx5 := bt_at a0 x5_1; go_wp2; go_ret; exact ⟨zs, zX⟩
       ·rw [if_neg c9] at H; have c9b0 : ((wrap64 (x5_1 + 1)) == (a0.size : Int)) = false := beq_eq_false_iff_ne.mpr c9; have c9b1 : ((wrap64 (x5_1 + 1)) != (a0.size : Int)) = true := bne_iff_ne.mpr c9
        obtain ⟨ji10, hji10⟩ : ∃ j_ : Int, (wrap64 (x5_1 + 1)) = j_ := ⟨_, rfl⟩
        replace H : (if 0 ≤ (ji10) then (if (ji10) < (a0.size : Int) then (if (bt a0 (ji10)) = 110 then (marginaliaref03_quoted.l0 k1 a0 (wrap64 ((ji10) + 1))) else (if (bt a0 (ji10)) = 34 then (marginaliaref03_quoted.l0 k1 a0 (wrap64 ((ji10) + 1))) else (if (bt a0 (ji10)) = 92 then (marginaliaref03_quoted.l0 k1 a0 (wrap64 ((ji10) + 1))) else (some 0)))) else (none)) else (none)) = some r := by first | (rw [hji10] at H; exact H) | (simp only [hji10] at H ⊢; exact H)
        (try rw [hji10] at c9b0)
        (try rw [hji10] at c9b1)
        have hji10w : (IntKind.i64.wrap (x5_1 + 1)) = ji10 := (i64_w _).trans hji10; replace H := zi1 H; obtain ⟨c11b0, H⟩ := H; replace H := zi1 H; obtain ⟨c12b0, H⟩ := H; by_cases c14 : (bt a0 (ji10)) = 110
        ·rw [if_pos c14] at H; have c14b0 : ((bt a0 (ji10)) == 110) = true := beq_iff_eq.mpr c14; have c14b1 : ((bt a0 (ji10)) != 110) = false := bne_eq_false_iff_eq.mpr c14; clear c14; have H' := Aside0.mk H; clear H; have p5 : (0 ≤ (x5_1 : Int)) = True := zT; have q5 : (x5_1 < (a0.size : Int)) = True := zT; have hx5 := bt_at a0 x5_1; have p13 : (0 ≤ ((ji10) : Int)) = True := zT; have q13 : ((ji10) < (a0.size : Int)) = True := zT; have hx13 := bt_at a0 (ji10); go_wp2
         go_roundg k1
         case measure => have := HK1.out; omega
         case rel => exact ⟨(wrap64 ((ji10) + 1)), (by first | rfl | (simp; done) | (simp only [← hji10] <;> (first | rfl | simp)) | (simp [*]; done)), H', zk, zX⟩
        ·rw [if_neg c14] at H; have c14b0 : ((bt a0 (ji10)) == 110) = false := beq_eq_false_iff_ne.mpr c14; have c14b1 : ((bt a0 (ji10)) != 110) = true := bne_iff_ne.mpr c14; by_cases c16 : (bt a0 (ji10)) = 34
         ·rw [if_pos c16] at H; have c16b0 : ((bt a0 (ji10)) == 34) = true := beq_iff_eq.mpr c16; have c16b1 : ((bt a0 (ji10)) != 34) = false := bne_eq_false_iff_eq.mpr c16; clear c16; have H' := Aside0.mk H; clear H; have p5 : (0 ≤ (x5_1 : Int)) = True := zT; have q5 : (x5_1 < (a0.size : Int)) = True := zT; have hx5 := bt_at a0 x5_1; have p13 : (0 ≤ ((ji10) : Int)) = True := zT; have q13 : ((ji10) < (a0.size : Int)) = True := zT; have hx13 := bt_at a0 (ji10); have p15 : (0 ≤ ((ji10) : Int)) = True := zT; have q15 : ((ji10) < (a0.size : Int)) = True := zT; have hx15 := bt_at a0 (ji10); go_wp2
          go_roundg k1
          case measure => have := HK1.out; omega
          case rel => exact ⟨(wrap64 ((ji10) + 1)), (by first | rfl | (simp; done) | (simp only [← hji10] <;> (first | rfl | simp)) | (simp [*]; done)), H', zk, zX⟩
         ·rw [if_neg c16] at H; have c16b0 : ((bt a0 (ji10)) == 34) = false := beq_eq_false_iff_ne.mpr c16; have c16b1 : ((bt a0 (ji10)) != 34) = true := bne_iff_ne.mpr c16; by_cases c18 : (bt a0 (ji10)) = 92
          ·rw [if_pos c18] at H; have c18b0 : ((bt a0 (ji10)) == 92) = true := beq_iff_eq.mpr c18; have c18b1 : ((bt a0 (ji10)) != 92) = false := bne_eq_false_iff_eq.mpr c18; clear c18; have H' := Aside0.mk H; clear H; have p5 : (0 ≤ (x5_1 : Int)) = True := zT; have q5 : (x5_1 < (a0.size : Int)) = True := zT; have hx5 := bt_at a0 x5_1; have p13 : (0 ≤ ((ji10) : Int)) = True := zT; have q13 : ((ji10) < (a0.size : Int)) = True := zT; have hx13 := bt_at a0 (ji10); have p15 : (0 ≤ ((ji10) : Int)) = True := zT; have q15 : ((ji10) < (a0.size : Int)) = True := zT; have hx15 := bt_at a0 (ji10); have p17 : (0 ≤ ((ji10) : Int)) = True := zT; have q17 : ((ji10) < (a0.size : Int)) = True := zT; have hx17 := bt_at a0 (ji10); go_wp2
           go_roundg k1
           case measure => have := HK1.out; omega
           case rel => exact ⟨(wrap64 ((ji10) + 1)), (by first | rfl | (simp; done) | (simp only [← hji10] <;> (first | rfl | simp)) | (simp [*]; done)), H', zk, zX⟩
          ·rw [if_neg c18] at H; have c18b0 : ((bt a0 (ji10)) == 92) = false := beq_eq_false_iff_ne.mpr c18; have c18b1 : ((bt a0 (ji10)) != 92) = true := bne_iff_ne.mpr c18; obtain rfl := Option.some.inj H; have p5 : (0 ≤ (x5_1 : Int)) = True := zT; have q5 : (x5_1 < (a0.size : Int)) = True := zT; have hx5 := bt_at a0 x5_1; have p13 : (0 ≤ ((ji10) : Int)) = True := zT; have q13 : ((ji10) < (a0.size : Int)) = True := zT; have hx13 := bt_at a0 (ji10); have p15 : (0 ≤ ((ji10) : Int)) = True := zT; have q15 : ((ji10) < (a0.size : Int)) = True := zT; have hx15 := bt_at a0 (ji10); have p17 : (0 ≤ ((ji10) : Int)) = True := zT; have q17 : ((ji10) < (a0.size : Int)) = True := zT; have hx17 := bt_at a0 (ji10); go_wp2; go_ret; exact ⟨by first | rfl | (simp; done) | (simp only [← hji10] <;> (first | rfl | simp)) | (simp [*]; done), zX⟩
      ·rw [if_neg c8] at H; have c8b0 : ((bt a0 x5_1) == 92) = false := beq_eq_false_iff_ne.mpr c8; have c8b1 : ((bt a0 x5_1) != 92) = true := bne_iff_ne.mpr c8; have H' := Aside0.mk H; clear H; have p5 : (0 ≤ (x5_1 : Int)) = True := zT; have q5 : (x5_1 < (a0.size : Int)) = True := zT; have hx5 := bt_at a0 x5_1; go_wp2
       go_roundg k1
       case measure => have := HK1.out; omega
       case rel => exact ⟨(wrap64 (x5_1 + 1)), zs, H', zk, zX⟩
   ·rw [if_neg c3] at H; have c3b0 := decide_eq_false c3; clear c3; obtain rfl := Option.some.inj H; go_wp2; go_ret; exact ⟨zs, zX⟩

/-! ### marginaliaref03_Signs: function 77 -/
def marginaliaref03_Signs.f  : Option (List ByteArray) := some (([(⟨#[33]⟩ : ByteArray), (⟨#[38, 38]⟩ : ByteArray), (⟨#[40]⟩ : ByteArray), (⟨#[41]⟩ : ByteArray), (⟨#[42]⟩ : ByteArray), (⟨#[43]⟩ : ByteArray), (⟨#[44]⟩ : ByteArray), (⟨#[45]⟩ : ByteArray), (⟨#[45, 62]⟩ : ByteArray), (⟨#[46]⟩ : ByteArray), (⟨#[58]⟩ : ByteArray), (⟨#[59]⟩ : ByteArray), (⟨#[60]⟩ : ByteArray), (⟨#[61]⟩ : ByteArray), (⟨#[61, 61]⟩ : ByteArray), (⟨#[61, 62]⟩ : ByteArray), (⟨#[91]⟩ : ByteArray), (⟨#[93]⟩ : ByteArray), (⟨#[123]⟩ : ByteArray), (⟨#[124]⟩ : ByteArray), (⟨#[124, 124]⟩ : ByteArray), (⟨#[125]⟩ : ByteArray)] : List ByteArray))
set_option maxHeartbeats 8000000 in
set_option maxRecDepth 100000 in
theorem marginaliaref03_Signs.calls  (r : List ByteArray) (w : World) (h : marginaliaref03_Signs.f  = some r) :
  Calls Try.prog 77 #[] w fun e w' => ∃ v0_ : Value, e = .returned (v0_) ∧ Kd.R Kd.string 9 w' w.heap.size (fun _ => True) v0_ r ∧ Below w.heap.size w w' := by
 have HB := Aside0.mk (Below.refl w.heap.size w); have H : (some (([(⟨#[33]⟩ : ByteArray), (⟨#[38, 38]⟩ : ByteArray), (⟨#[40]⟩ : ByteArray), (⟨#[41]⟩ : ByteArray), (⟨#[42]⟩ : ByteArray), (⟨#[43]⟩ : ByteArray), (⟨#[44]⟩ : ByteArray), (⟨#[45]⟩ : ByteArray), (⟨#[45, 62]⟩ : ByteArray), (⟨#[46]⟩ : ByteArray), (⟨#[58]⟩ : ByteArray), (⟨#[59]⟩ : ByteArray), (⟨#[60]⟩ : ByteArray), (⟨#[61]⟩ : ByteArray), (⟨#[61, 61]⟩ : ByteArray), (⟨#[61, 62]⟩ : ByteArray), (⟨#[91]⟩ : ByteArray), (⟨#[93]⟩ : ByteArray), (⟨#[123]⟩ : ByteArray), (⟨#[124]⟩ : ByteArray), (⟨#[124, 124]⟩ : ByteArray), (⟨#[125]⟩ : ByteArray)] : List ByteArray))) = some r := h; clear h
 obtain ⟨y231, hy231⟩ : ∃ y_ : List ByteArray, y_ = (([(⟨#[33]⟩ : ByteArray), (⟨#[38, 38]⟩ : ByteArray), (⟨#[40]⟩ : ByteArray), (⟨#[41]⟩ : ByteArray), (⟨#[42]⟩ : ByteArray), (⟨#[43]⟩ : ByteArray), (⟨#[44]⟩ : ByteArray), (⟨#[45]⟩ : ByteArray), (⟨#[45, 62]⟩ : ByteArray), (⟨#[46]⟩ : ByteArray), (⟨#[58]⟩ : ByteArray), (⟨#[59]⟩ : ByteArray), (⟨#[60]⟩ : ByteArray), (⟨#[61]⟩ : ByteArray), (⟨#[61, 61]⟩ : ByteArray), (⟨#[61, 62]⟩ : ByteArray), (⟨#[91]⟩ : ByteArray), (⟨#[93]⟩ : ByteArray), (⟨#[123]⟩ : ByteArray), (⟨#[124]⟩ : ByteArray), (⟨#[124, 124]⟩ : ByteArray), (⟨#[125]⟩ : ByteArray)] : List ByteArray)) := ⟨_, rfl⟩
 replace H : (some y231) = some r := by first | (rw [hy231]; with_reducible exact H) | (have H2_ := (Option.bind_some _ _).symm.trans H; rw [hy231]; with_reducible exact H2_) | (have H2_ := (Option.bind_some _ _).symm.trans H; with_reducible exact H2_) | with_reducible exact H | (rw [hy231]; exact H) | exact H
 have Ny231 := Aside0.mk hy231; clear hy231; obtain rfl := Option.some.inj H; go_enter Try.func77, Try.ntmps77
 go_wp2_with (first | ((with_reducible refine zD 1 rfl ?_); refine Kd.R_lit Kd.string _ 9 ?hg (N := 1) ?hd (xs := ([(⟨#[33]⟩ : ByteArray), (⟨#[38, 38]⟩ : ByteArray), (⟨#[40]⟩ : ByteArray), (⟨#[41]⟩ : ByteArray), (⟨#[42]⟩ : ByteArray), (⟨#[43]⟩ : ByteArray), (⟨#[44]⟩ : ByteArray), (⟨#[45]⟩ : ByteArray), (⟨#[45, 62]⟩ : ByteArray), (⟨#[46]⟩ : ByteArray), (⟨#[58]⟩ : ByteArray), (⟨#[59]⟩ : ByteArray), (⟨#[60]⟩ : ByteArray), (⟨#[61]⟩ : ByteArray), (⟨#[61, 61]⟩ : ByteArray), (⟨#[61, 62]⟩ : ByteArray), (⟨#[91]⟩ : ByteArray), (⟨#[93]⟩ : ByteArray), (⟨#[123]⟩ : ByteArray), (⟨#[124]⟩ : ByteArray), (⟨#[124, 124]⟩ : ByteArray), (⟨#[125]⟩ : ByteArray)] : List ByteArray)) (inner := [.string (⟨#[33]⟩ : ByteArray), .string (⟨#[38, 38]⟩ : ByteArray), .string (⟨#[40]⟩ : ByteArray), .string (⟨#[41]⟩ : ByteArray), .string (⟨#[42]⟩ : ByteArray), .string (⟨#[43]⟩ : ByteArray), .string (⟨#[44]⟩ : ByteArray), .string (⟨#[45]⟩ : ByteArray), .string (⟨#[45, 62]⟩ : ByteArray), .string (⟨#[46]⟩ : ByteArray), .string (⟨#[58]⟩ : ByteArray), .string (⟨#[59]⟩ : ByteArray), .string (⟨#[60]⟩ : ByteArray), .string (⟨#[61]⟩ : ByteArray), .string (⟨#[61, 61]⟩ : ByteArray), .string (⟨#[61, 62]⟩ : ByteArray), .string (⟨#[91]⟩ : ByteArray), .string (⟨#[93]⟩ : ByteArray), .string (⟨#[123]⟩ : ByteArray), .string (⟨#[124]⟩ : ByteArray), .string (⟨#[124, 124]⟩ : ByteArray), .string (⟨#[125]⟩ : ByteArray)]) (ok := fun _ => True) (okp := fun _ => True) ?hr ?hp (fun _ hk => hk) trivial (Below.refl _ _) (Nat.le_refl _) (by simp) ?_; (case hd => rfl); (case hg => rfl); (case hr => first | (go_simp; done) | (go_simp; rfl)); (case hp => exact (Reps.one (show Kd.M Kd.string _ _ _ (⟨#[33]⟩ : ByteArray) [.string (⟨#[33]⟩ : ByteArray)] from rfl) (Reps.one (show Kd.M Kd.string _ _ _ (⟨#[38, 38]⟩ : ByteArray) [.string (⟨#[38, 38]⟩ : ByteArray)] from rfl) (Reps.one (show Kd.M Kd.string _ _ _ (⟨#[40]⟩ : ByteArray) [.string (⟨#[40]⟩ : ByteArray)] from rfl) (Reps.one (show Kd.M Kd.string _ _ _ (⟨#[41]⟩ : ByteArray) [.string (⟨#[41]⟩ : ByteArray)] from rfl) (Reps.one (show Kd.M Kd.string _ _ _ (⟨#[42]⟩ : ByteArray) [.string (⟨#[42]⟩ : ByteArray)] from rfl) (Reps.one (show Kd.M Kd.string _ _ _ (⟨#[43]⟩ : ByteArray) [.string (⟨#[43]⟩ : ByteArray)] from rfl) (Reps.one (show Kd.M Kd.string _ _ _ (⟨#[44]⟩ : ByteArray) [.string (⟨#[44]⟩ : ByteArray)] from rfl) (Reps.one (show Kd.M Kd.string _ _ _ (⟨#[45]⟩ : ByteArray) [.string (⟨#[45]⟩ : ByteArray)] from rfl) (Reps.one (show Kd.M Kd.string _ _ _ (⟨#[45, 62]⟩ : ByteArray) [.string (⟨#[45, 62]⟩ : ByteArray)] from rfl) (Reps.one (show Kd.M Kd.string _ _ _ (⟨#[46]⟩ : ByteArray) [.string (⟨#[46]⟩ : ByteArray)] from rfl) (Reps.one (show Kd.M Kd.string _ _ _ (⟨#[58]⟩ : ByteArray) [.string (⟨#[58]⟩ : ByteArray)] from rfl) (Reps.one (show Kd.M Kd.string _ _ _ (⟨#[59]⟩ : ByteArray) [.string (⟨#[59]⟩ : ByteArray)] from rfl) (Reps.one (show Kd.M Kd.string _ _ _ (⟨#[60]⟩ : ByteArray) [.string (⟨#[60]⟩ : ByteArray)] from rfl) (Reps.one (show Kd.M Kd.string _ _ _ (⟨#[61]⟩ : ByteArray) [.string (⟨#[61]⟩ : ByteArray)] from rfl) (Reps.one (show Kd.M Kd.string _ _ _ (⟨#[61, 61]⟩ : ByteArray) [.string (⟨#[61, 61]⟩ : ByteArray)] from rfl) (Reps.one (show Kd.M Kd.string _ _ _ (⟨#[61, 62]⟩ : ByteArray) [.string (⟨#[61, 62]⟩ : ByteArray)] from rfl) (Reps.one (show Kd.M Kd.string _ _ _ (⟨#[91]⟩ : ByteArray) [.string (⟨#[91]⟩ : ByteArray)] from rfl) (Reps.one (show Kd.M Kd.string _ _ _ (⟨#[93]⟩ : ByteArray) [.string (⟨#[93]⟩ : ByteArray)] from rfl) (Reps.one (show Kd.M Kd.string _ _ _ (⟨#[123]⟩ : ByteArray) [.string (⟨#[123]⟩ : ByteArray)] from rfl) (Reps.one (show Kd.M Kd.string _ _ _ (⟨#[124]⟩ : ByteArray) [.string (⟨#[124]⟩ : ByteArray)] from rfl) (Reps.one (show Kd.M Kd.string _ _ _ (⟨#[124, 124]⟩ : ByteArray) [.string (⟨#[124, 124]⟩ : ByteArray)] from rfl) (Reps.one (show Kd.M Kd.string _ _ _ (⟨#[125]⟩ : ByteArray) [.string (⟨#[125]⟩ : ByteArray)] from rfl) (Reps.none _ _)))))))))))))))))))))))); intro v232 w1 ho2 hb hg_ hnew_; clear hg_ hnew_; (first | rw [← Ny231.out] at ho2 | (simp only [Int.reduceToNat] at ho2; rw [← Ny231.out] at ho2)); have HO233 := Aside0.mk (Kd.R_lower ho2 (below_size zb)); replace HB := (zB hb); clear hb ho2))
 go_ret; exact ⟨_, zr, by (with_reducible repeat (first | apply Kd.R_alloc | apply Kd.R_drewN | apply Kd.R_drew)); exact HO233.out, zb⟩

end Go.Proofs.Ytahcpappailjgaa.P

namespace Go.Proofs.Ytahcpappailjgaa.P
open Go.RowKit Go.Proofs.YtahcpappailjgaaW.PrintWords Go.Proofs.YtahcpappailjgaaW.PrintLast Go.Proofs.YtahcpappailjgaaW.PrintMore
attribute [local go_sem] max2_int min2_int max_two min_two max_three min_three max_four min_four
set_option linter.unusedVariables false
set_option linter.unusedSimpArgs false

/-! ### marginaliaref03_sign: function 62 -/
def marginaliaref03_sign.j0 : Nat → ByteArray → Int → Bool → Option (Int)
 | 0, _, _, _ => none
 | k + 1, x0, x1, x18 => if x18 = true then (some 2) else ((marginaliaref03_Signs.f).bind fun t238 => (if 0 ≤ x1 then (if x1 ≤ (wrap64 (x1 + 1)) then (if (wrap64 (x1 + 1)) ≤ (x0.size : Int) then ((marginaliaref03_has.f k t238 (x0.extract (x1 : Int).toNat ((wrap64 (x1 + 1)) : Int).toNat)).bind fun t241 => (if t241 = true then (some 1) else (some 0))) else (none)) else (none)) else (none)))
def marginaliaref03_sign.f (k : Nat) (a0 : ByteArray) (a1 : Int) : Option (Int) := if (wrap64 (a1 + 1)) < (a0.size : Int) then ((marginaliaref03_Signs.f).bind fun t234 => (if 0 ≤ a1 then (if a1 ≤ (wrap64 (a1 + 2)) then (if (wrap64 (a1 + 2)) ≤ (a0.size : Int) then ((marginaliaref03_has.f k t234 (a0.extract (a1 : Int).toNat ((wrap64 (a1 + 2)) : Int).toNat)).bind fun t237 => (marginaliaref03_sign.j0 k a0 a1 t237)) else (none)) else (none)) else (none))) else (marginaliaref03_sign.j0 k a0 a1 false)
theorem marginaliaref03_sign.mono_l : ∀ k, (∀ y0 y1 y2, LeO (marginaliaref03_sign.j0 k y0 y1 y2) (marginaliaref03_sign.j0 (k + 1) y0 y1 y2))
 | 0 => fun _ _ _ r h => by simp [marginaliaref03_sign.j0] at h
 | k + 1 => by
  have ih0 := marginaliaref03_sign.mono_l k
  (intro y0 y1 y2; unfold marginaliaref03_sign.j0); rotate_left
  all_goals repeat' first | (with_reducible exact ih0 _ _ _) | (with_reducible exact marginaliaref03_has.mono _ _ _) | (with_reducible exact LeO.refl _) | (with_reducible exact LeO.none _) | (with_reducible refine LeO.ite ?_ ?_) | (with_reducible refine LeO.bind ?_ (fun _ => ?_)) | exact ih0 _ _ _ | exact marginaliaref03_has.mono _ _ _ | exact LeO.none _ | refine LeO.ite ?_ ?_ | refine LeO.bind ?_ (fun _ => ?_)
theorem marginaliaref03_sign.mono : ∀ a0 a1 k, LeO (marginaliaref03_sign.f k a0 a1) (marginaliaref03_sign.f (k + 1) a0 a1) := by
 intro a0 a1 k; have ih0 := marginaliaref03_sign.mono_l k; unfold marginaliaref03_sign.f
 repeat' first
   | (with_reducible exact ih0 _ _ _)
   | (with_reducible exact marginaliaref03_has.mono _ _ _)
   | (with_reducible exact LeO.refl _)
   | (with_reducible exact LeO.none _)
   | (with_reducible refine LeO.ite ?_ ?_)
   | (with_reducible refine LeO.bind ?_ (fun _ => ?_))
   | exact ih0 _ _ _
   | exact marginaliaref03_has.mono _ _ _
   | exact LeO.none _
   | refine LeO.ite ?_ ?_
   | refine LeO.bind ?_ (fun _ => ?_)
def marginaliaref03_sign.T1 : Bool × List (List Nat × List Nat) := (true, [([], []), ([0], [0]), ([], []), ([2], [2]), ([1, 3], [1, 3]), ([4], [4]), ([5, 5], [5]), ([5], [5]), ([5], [5]), ([5], [5]), ([9, 5], [5, 9]), ([7, 8, 10, 5], [5, 7, 8, 10]), ([6, 11, 6, 5], [5, 6, 11]), ([5, 12], [5, 12])])
def marginaliaref03_sign.B1 : List Nat := [0, 1, 0, 4, 15, 31, 63, 63, 63, 63, 575, 1983, 4095, 8191]
theorem marginaliaref03_sign.tab1 : rtab .any (opsOf Try.f62 1) = marginaliaref03_sign.T1 := by kernel_rfl
theorem marginaliaref03_sign.bits1 : waitsOk marginaliaref03_sign.T1.2 marginaliaref03_sign.B1 = true := by kernel_rfl
set_option maxHeartbeats 8000000 in
set_option maxRecDepth 100000 in
theorem marginaliaref03_sign.calls (k : Nat) (a0 : ByteArray) (a1 : Int) (r : Int) (w : World) (h : marginaliaref03_sign.f k a0 a1 = some r) :
  Calls Try.prog 62 #[.string a0, .int .i64 a1] w fun e w' => e = .returned (.int .i64 r) ∧ Below w.heap.size w w' := by
 have HB := Aside0.mk (Below.refl w.heap.size w); have H : (if (wrap64 (a1 + 1)) < (a0.size : Int) then ((marginaliaref03_Signs.f).bind fun t234 => (if 0 ≤ a1 then (if a1 ≤ (wrap64 (a1 + 2)) then (if (wrap64 (a1 + 2)) ≤ (a0.size : Int) then ((marginaliaref03_has.f k t234 (a0.extract (a1 : Int).toNat ((wrap64 (a1 + 2)) : Int).toNat)).bind fun t237 => (marginaliaref03_sign.j0 k a0 a1 t237)) else (none)) else (none)) else (none))) else (marginaliaref03_sign.j0 k a0 a1 false)) = some r := h; clear h; have HC3 := Aside0.mk H; clear H; go_enter Try.func62, Try.ntmps62
 go_upto_region 1 with (fail)
 go_cut [18] (fun v18 wc => ∃ (kq : Nat) (x18_2 : Bool), v18 = .bool x18_2 ∧ Aside0 (marginaliaref03_sign.j0 kq a0 a1 x18_2 = some r) ∧ Aside0 (kq ≤ k) ∧ Aside0 (Below w.heap.size w wc))
 case first =>
  have H := HC3.out; clear HC3; by_cases c4 : (wrap64 (a1 + 1)) < (a0.size : Int)
  ·rw [if_pos c4] at H; have c4b0 := decide_eq_true c4; clear c4
   (first | rw [c4b0] | (simp only [i64_w, i32_w]; rw [c4b0]) | skip)
   replace H := zo H; obtain ⟨t234, A5, H⟩ := H; replace H := zi2 H; obtain ⟨c6b0, c6b1, H⟩ := H; replace H := zi H; obtain ⟨c7, H⟩ := H; have c7b0 := eq_true c7; have c7b1 : decide (a1 ≤ (wrap64 (a1 + 2))) = true := decide_eq_true c7; replace H := zi H; obtain ⟨c8, H⟩ := H; have c8b0 := eq_true c8; have c8b1 : decide ((wrap64 (a1 + 2)) ≤ (a0.size : Int)) = true := decide_eq_true c8; replace H := zo H; obtain ⟨t237, A9, H⟩ := H; have H' := Aside0.mk H; clear H
   try go_wp2
   replace HB := Aside0.mk (below_drew1 HB.out); refine start_ (n := 14) (S := fun w' => True) (ds := []) #[false, false, false, false, false, false, false, false, false, false, false, false, false, false] (by kernel_rfl) rfl rfl trivial (fun hHeld => ?_); refine with_tabW marginaliaref03_sign.tab1 marginaliaref03_sign.bits1 (fun HT_ HW_ => ?_); generalize w.drew = w10 at HB hHeld ⊢; refine zp 0 5 HT_ ?_; refine zp 1 6 HT_ ?_; refine zp 2 7 HT_ ?_; refine zp 3 8 HT_ ?_; refine zp 4 9 HT_ ?_; refine zp 5 10 HT_ ?_; refine zp 7 12 HT_ ?_; refine zp 8 13 HT_ ?_; refine zp 9 14 HT_ ?_; refine zp 10 15 HT_ ?_; refine zp 11 16 HT_ ?_; refine one_ (i := 6) (N := some 11) #[true, true, true, true, true, true, true, true, true, true, true, true, false, false] rfl rfl (one_of HT_.out (by kernel_rfl)) (by decide) (fun K hK => ?_); refine goes_ Try.func77 (by kernel_rfl) rfl #[] (by rfl) rfl rfl (by (try simp only [List.map_toArray, List.map_cons, List.map_nil]); first | done | rfl | (simp only [List.length_drop, List.length_take]; rfl)) ?_
   with_reducible refine (marginaliaref03_Signs.calls  t234 _ A5.out).mono ?_
   rintro e w11 ⟨v235, rfl, ho0, hb⟩; refine ⟨_, rfl, ?_⟩; have HO236 := Aside0.mk (Kd.R_lower ho0 (below_size zb))
   replace HB := (zB hb)
   (try clear hb)
   (try clear hb2)
   (try clear hk)
   (try clear hi)
   (try clear ho0)
   obtain ⟨Ao12, co12, eo12⟩ := Kd.R_slice HO236.out
   (first | subst eo12 | (injection eo12 with f1_ f2_ f3_; have f4_ := f1_.symm; have f5_ := f3_.symm; clear f1_ f2_ f3_; subst f4_; subst f5_))
   refine hK.out _ _ trivial (fun hHeld => ?_); clear hK K; refine norm_ (a' := ?_) ?_ ?_; rotate_left
   ·show Act.put _ (some 11) _ = _
    simp only [Act.put, List.setIfInBounds_toArray, List.set_cons_zero, List.set_cons_succ, i64_w, i32_w]; rfl
   refine one_ (i := 12) (N := some 17) #[true, true, true, true, true, true, true, true, true, true, true, true, true, false] rfl rfl (one_of HT_.out (by kernel_rfl)) (by decide) (fun K hK => ?_); refine goes_ Try.func59 (by kernel_rfl) rfl #[.slice Ao12 t234.length co12, .string (a0.extract (a1 : Int).toNat ((wrap64 (a1 + 2)) : Int).toNat)] (by rfl) rfl rfl (by (try simp only [List.map_toArray, List.map_cons, List.map_nil]); first | done | rfl | (simp only [List.length_drop, List.length_take]; rfl)) ?_
   with_reducible refine (marginaliaref03_has.calls k _ _ t234 (a0.extract (a1 : Int).toNat ((wrap64 (a1 + 2)) : Int).toNat) t237 _ ?side1 ?side2 A9.out).mono ?_
   (case side1 => exact zE' (Kd.R_reads' HO236.out).2.2)
   (case side2 => exact (Kd.R_reads' HO236.out).2.1)
   rintro e w' ⟨rfl, ⟨nd, rfl⟩⟩; refine ⟨_, rfl, ?_⟩; refine hK.out _ _ trivial (fun hHeld => ?_); clear hK K; refine norm_ (a' := ?_) ?_ ?_; rotate_left
   ·show Act.put _ (some 17) _ = _
    simp only [Act.put, List.setIfInBounds_toArray, List.set_cons_zero, List.set_cons_succ, i64_w, i32_w]; rfl
   refine zp 13 18 HT_ ?_; refine done_ (done_of HT_.out (by kernel_rfl)) ?_
   try go_wp2
   go_meet
   case rel => exact ⟨_, (t237), zs, H', ⟨by first | omega | exact Nat.le_refl _⟩, ⟨zb⟩⟩
  ·rw [if_neg c4] at H; have c4b0 := decide_eq_false c4; clear c4
   (first | rw [c4b0] | (simp only [i64_w, i32_w]; rw [c4b0]) | skip)
   have H' := Aside0.mk H; clear H
   try go_wp2
   replace HB := Aside0.mk (below_drew1 HB.out); refine start_ (n := 14) (S := fun w' => True) (ds := []) #[false, false, false, false, false, false, false, false, false, false, false, false, false, false] (by kernel_rfl) rfl rfl trivial (fun hHeld => ?_); refine with_tabW marginaliaref03_sign.tab1 marginaliaref03_sign.bits1 (fun HT_ HW_ => ?_); generalize w.drew = w13 at HB hHeld ⊢; refine zp 0 5 HT_ ?_; refine zp 1 6 HT_ ?_; refine zp 2 7 HT_ ?_; refine zp 3 8 HT_ ?_; refine zp 4 9 HT_ ?_; refine zp 5 10 HT_ ?_; refine zu 6 11 HT_ ?_; refine zu 7 12 HT_ ?_; refine zu 8 13 HT_ ?_; refine zu 9 14 HT_ ?_; refine zu 10 15 HT_ ?_; refine zu 11 16 HT_ ?_; refine zu 12 17 HT_ ?_; refine zp 13 18 HT_ ?_; refine done_ (done_of HT_.out (by kernel_rfl)) ?_
   try go_wp2
   go_meet
   case rel => exact ⟨_, (false), zs, H', ⟨by first | omega | exact Nat.le_refl _⟩, ⟨zb⟩⟩
 case rest =>
  clear HC3; obtain ⟨kq, x18_2, rfl, HA, HJ2, HB⟩ := hcut
  cases kq with
  | zero => exact absurd HA.out (by simp [marginaliaref03_sign.j0])
  | succ kj2 =>
   have H := HA.out; clear HA; simp only [marginaliaref03_sign.j0] at H; by_cases c14 : x18_2 = true
   ·subst c14; rw [if_pos rfl] at H; obtain rfl := Option.some.inj H; go_wp2; go_ret; exact ⟨zr, zb⟩
   ·replace c14 := Bool.eq_false_iff.mpr c14; subst c14; replace H := zf H; replace H := zo H; obtain ⟨t238, A15, H⟩ := H; replace H := zi2 H; obtain ⟨c16b0, c16b1, H⟩ := H; replace H := zi H; obtain ⟨c17, H⟩ := H; have c17b0 := eq_true c17; have c17b1 : decide (a1 ≤ (wrap64 (a1 + 1))) = true := decide_eq_true c17; replace H := zi H; obtain ⟨c18, H⟩ := H; have c18b0 := eq_true c18; have c18b1 : decide ((wrap64 (a1 + 1)) ≤ (a0.size : Int)) = true := decide_eq_true c18; replace H := zo H; obtain ⟨t241, A19, H⟩ := H; by_cases c20 : t241 = true
    ·subst c20; rw [if_pos rfl] at H; obtain rfl := Option.some.inj H
     try go_wp2
     replace HB := Aside0.mk (below_drew1 HB.out); refine start_ (n := 7) (S := fun w' => True) (ds := []) #[false, false, false, false, false, false, false] (by kernel_rfl) rfl rfl trivial (fun hHeld => ?_); generalize wc.drew = w21 at HB hHeld ⊢; refine pure_ (i := 1) (N := some 20) (v := ?_) (a' := ?_) #[false, true, false, false, false, false, false] rfl rfl (by kernel_rfl) (fun _ _ _ h => h) (Or.inl ⟨by rfl, ?_⟩) ?_ ?_; rotate_left
     ·intro w'; go_simp; with_reducible rfl
     rotate_left
     ·simp only [Act.put, List.setIfInBounds_toArray, List.set_cons_zero, List.set_cons_succ, i64_w, i32_w]; rfl
     refine pure_ (i := 2) (N := some 21) (v := ?_) (a' := ?_) #[false, true, true, false, false, false, false] rfl rfl (by kernel_rfl) (fun _ _ _ h => h) (Or.inl ⟨by rfl, ?_⟩) ?_ ?_; rotate_left
     ·intro w'; go_simp; with_reducible rfl
     rotate_left
     ·simp only [Act.put, List.setIfInBounds_toArray, List.set_cons_zero, List.set_cons_succ, i64_w, i32_w]; rfl
     refine pure_ (i := 3) (N := some 22) (v := ?_) (a' := ?_) #[false, true, true, true, false, false, false] rfl rfl (by kernel_rfl) (fun _ _ _ h => h) (Or.inl ⟨by rfl, ?_⟩) ?_ ?_; rotate_left
     ·intro w'; go_simp; with_reducible rfl
     rotate_left
     ·simp only [Act.put, List.setIfInBounds_toArray, List.set_cons_zero, List.set_cons_succ, i64_w, i32_w]; rfl
     refine pure_ (i := 4) (N := some 23) (v := ?_) (a' := ?_) #[false, true, true, true, true, false, false] rfl rfl (by kernel_rfl) (fun _ _ _ h => h) (Or.inl ⟨by rfl, ?_⟩) ?_ ?_; rotate_left
     ·intro w'; go_simp; with_reducible rfl
     rotate_left
     ·simp only [Act.put, List.setIfInBounds_toArray, List.set_cons_zero, List.set_cons_succ, i64_w, i32_w]; rfl
     refine pure_ (i := 5) (N := some 24) (v := ?_) (a' := ?_) #[false, true, true, true, true, true, false] rfl rfl (by kernel_rfl) (fun _ _ _ h => h) (Or.inl ⟨by rfl, ?_⟩) ?_ ?_; rotate_left
     ·intro w'; go_simp; with_reducible rfl
     rotate_left
     ·simp only [Act.put, List.setIfInBounds_toArray, List.set_cons_zero, List.set_cons_succ, i64_w, i32_w]; rfl
     refine one_ (i := 0) (N := some 19) #[true, true, true, true, true, true, false] rfl rfl (by kernel_rfl) (by decide) (fun K hK => ?_); refine goes_ Try.func77 (by kernel_rfl) rfl #[] (by rfl) rfl rfl (by (try simp only [List.map_toArray, List.map_cons, List.map_nil]); first | done | rfl | (simp only [List.length_drop, List.length_take]; rfl)) ?_
     with_reducible refine (marginaliaref03_Signs.calls  t238 _ A15.out).mono ?_
     rintro e w22 ⟨v239, rfl, ho0, hb⟩; refine ⟨_, rfl, ?_⟩; have HO240 := Aside0.mk (Kd.R_lower ho0 (below_size zb))
     replace HB := (zB hb)
     (try clear hb)
     (try clear hb2)
     (try clear hk)
     (try clear hi)
     (try clear ho0)
     obtain ⟨Ao23, co23, eo23⟩ := Kd.R_slice HO240.out
     (first | subst eo23 | (injection eo23 with f1_ f2_ f3_; have f4_ := f1_.symm; have f5_ := f3_.symm; clear f1_ f2_ f3_; subst f4_; subst f5_))
     refine hK.out _ _ trivial (fun hHeld => ?_); clear hK K; refine norm_ (a' := ?_) ?_ ?_; rotate_left
     ·show Act.put _ (some 19) _ = _
      simp only [Act.put, List.setIfInBounds_toArray, List.set_cons_zero, List.set_cons_succ, i64_w, i32_w]; rfl
     refine one_ (i := 6) (N := some 25) #[true, true, true, true, true, true, true] rfl rfl (by kernel_rfl) (by decide) (fun K hK => ?_); refine goes_ Try.func59 (by kernel_rfl) rfl #[.slice Ao23 t238.length co23, .string (a0.extract (a1 : Int).toNat ((wrap64 (a1 + 1)) : Int).toNat)] (by rfl) rfl rfl (by (try simp only [List.map_toArray, List.map_cons, List.map_nil]); first | done | rfl | (simp only [List.length_drop, List.length_take]; rfl)) ?_
     with_reducible refine (marginaliaref03_has.calls kj2 _ _ t238 (a0.extract (a1 : Int).toNat ((wrap64 (a1 + 1)) : Int).toNat) true _ ?side1 ?side2 A19.out).mono ?_
     (case side1 => exact zE' (Kd.R_reads' HO240.out).2.2)
     (case side2 => exact (Kd.R_reads' HO240.out).2.1)
     rintro e w' ⟨rfl, ⟨nd, rfl⟩⟩; refine ⟨_, rfl, ?_⟩; refine hK.out _ _ trivial (fun hHeld => ?_); clear hK K; refine norm_ (a' := ?_) ?_ ?_; rotate_left
     ·show Act.put _ (some 25) _ = _
      simp only [Act.put, List.setIfInBounds_toArray, List.set_cons_zero, List.set_cons_succ, i64_w, i32_w]; rfl
     refine done_ (by kernel_rfl) ?_
     try go_wp2
     go_ret; exact ⟨zr, zb⟩
    ·replace c20 := Bool.eq_false_iff.mpr c20; subst c20; replace H := zf H; obtain rfl := Option.some.inj H
     try go_wp2
     replace HB := Aside0.mk (below_drew1 HB.out); refine start_ (n := 7) (S := fun w' => True) (ds := []) #[false, false, false, false, false, false, false] (by kernel_rfl) rfl rfl trivial (fun hHeld => ?_); generalize wc.drew = w24 at HB hHeld ⊢; refine pure_ (i := 1) (N := some 20) (v := ?_) (a' := ?_) #[false, true, false, false, false, false, false] rfl rfl (by kernel_rfl) (fun _ _ _ h => h) (Or.inl ⟨by rfl, ?_⟩) ?_ ?_; rotate_left
     ·intro w'; go_simp; with_reducible rfl
     rotate_left
     ·simp only [Act.put, List.setIfInBounds_toArray, List.set_cons_zero, List.set_cons_succ, i64_w, i32_w]; rfl
     refine pure_ (i := 2) (N := some 21) (v := ?_) (a' := ?_) #[false, true, true, false, false, false, false] rfl rfl (by kernel_rfl) (fun _ _ _ h => h) (Or.inl ⟨by rfl, ?_⟩) ?_ ?_; rotate_left
     ·intro w'; go_simp; with_reducible rfl
     rotate_left
     ·simp only [Act.put, List.setIfInBounds_toArray, List.set_cons_zero, List.set_cons_succ, i64_w, i32_w]; rfl
     refine pure_ (i := 3) (N := some 22) (v := ?_) (a' := ?_) #[false, true, true, true, false, false, false] rfl rfl (by kernel_rfl) (fun _ _ _ h => h) (Or.inl ⟨by rfl, ?_⟩) ?_ ?_; rotate_left
     ·intro w'; go_simp; with_reducible rfl
     rotate_left
     ·simp only [Act.put, List.setIfInBounds_toArray, List.set_cons_zero, List.set_cons_succ, i64_w, i32_w]; rfl
     refine pure_ (i := 4) (N := some 23) (v := ?_) (a' := ?_) #[false, true, true, true, true, false, false] rfl rfl (by kernel_rfl) (fun _ _ _ h => h) (Or.inl ⟨by rfl, ?_⟩) ?_ ?_; rotate_left
     ·intro w'; go_simp; with_reducible rfl
     rotate_left
     ·simp only [Act.put, List.setIfInBounds_toArray, List.set_cons_zero, List.set_cons_succ, i64_w, i32_w]; rfl
     refine pure_ (i := 5) (N := some 24) (v := ?_) (a' := ?_) #[false, true, true, true, true, true, false] rfl rfl (by kernel_rfl) (fun _ _ _ h => h) (Or.inl ⟨by rfl, ?_⟩) ?_ ?_; rotate_left
     ·intro w'; go_simp; with_reducible rfl
     rotate_left
     ·simp only [Act.put, List.setIfInBounds_toArray, List.set_cons_zero, List.set_cons_succ, i64_w, i32_w]; rfl
     refine one_ (i := 0) (N := some 19) #[true, true, true, true, true, true, false] rfl rfl (by kernel_rfl) (by decide) (fun K hK => ?_); refine goes_ Try.func77 (by kernel_rfl) rfl #[] (by rfl) rfl rfl (by (try simp only [List.map_toArray, List.map_cons, List.map_nil]); first | done | rfl | (simp only [List.length_drop, List.length_take]; rfl)) ?_
     with_reducible refine (marginaliaref03_Signs.calls  t238 _ A15.out).mono ?_
     rintro e w25 ⟨v239, rfl, ho0, hb⟩; refine ⟨_, rfl, ?_⟩; have HO240 := Aside0.mk (Kd.R_lower ho0 (below_size zb))
     replace HB := (zB hb)
     (try clear hb)
     (try clear hb2)
     (try clear hk)
     (try clear hi)
     (try clear ho0)
     obtain ⟨Ao26, co26, eo26⟩ := Kd.R_slice HO240.out
     (first | subst eo26 | (injection eo26 with f1_ f2_ f3_; have f4_ := f1_.symm; have f5_ := f3_.symm; clear f1_ f2_ f3_; subst f4_; subst f5_))
     refine hK.out _ _ trivial (fun hHeld => ?_); clear hK K; refine norm_ (a' := ?_) ?_ ?_; rotate_left
     ·show Act.put _ (some 19) _ = _
      simp only [Act.put, List.setIfInBounds_toArray, List.set_cons_zero, List.set_cons_succ, i64_w, i32_w]; rfl
     refine one_ (i := 6) (N := some 25) #[true, true, true, true, true, true, true] rfl rfl (by kernel_rfl) (by decide) (fun K hK => ?_); refine goes_ Try.func59 (by kernel_rfl) rfl #[.slice Ao26 t238.length co26, .string (a0.extract (a1 : Int).toNat ((wrap64 (a1 + 1)) : Int).toNat)] (by rfl) rfl rfl (by (try simp only [List.map_toArray, List.map_cons, List.map_nil]); first | done | rfl | (simp only [List.length_drop, List.length_take]; rfl)) ?_
     with_reducible refine (marginaliaref03_has.calls kj2 _ _ t238 (a0.extract (a1 : Int).toNat ((wrap64 (a1 + 1)) : Int).toNat) false _ ?side1 ?side2 A19.out).mono ?_
     (case side1 => exact zE' (Kd.R_reads' HO240.out).2.2)
     (case side2 => exact (Kd.R_reads' HO240.out).2.1)
     rintro e w' ⟨rfl, ⟨nd, rfl⟩⟩; refine ⟨_, rfl, ?_⟩; refine hK.out _ _ trivial (fun hHeld => ?_); clear hK K; refine norm_ (a' := ?_) ?_ ?_; rotate_left
     ·show Act.put _ (some 25) _ = _
      simp only [Act.put, List.setIfInBounds_toArray, List.set_cons_zero, List.set_cons_succ, i64_w, i32_w]; rfl
     refine done_ (by kernel_rfl) ?_
     try go_wp2
     go_ret; exact ⟨zr, zb⟩

/-! ### marginaliaref03_begins: function 63 -/
def marginaliaref03_begins.f (k : Nat) (a0 : ByteArray) (a1 : Int) : Option (Bool) := if 0 ≤ a1 then (if a1 < (a0.size : Int) then ((marginaliaref03_Blank.f (bt a0 a1)).bind fun t242 => (if t242 = true then (some true) else ((marginaliaref03_Letter.f (bt a0 a1)).bind fun t243 => (if t243 = true then (some true) else ((marginaliaref03_Digit.f (bt a0 a1)).bind fun t244 => (if t244 = true then (some true) else (if (bt a0 a1) = 34 then (some true) else ((marginaliaref03_remark.f a0 a1).bind fun t245 => (if t245 = true then (some true) else ((marginaliaref03_sign.f k a0 a1).bind fun t246 => (some (decide (t246 > 0))))))))))))) else (none)) else (none)
theorem marginaliaref03_begins.mono : ∀ a0 a1 k, LeO (marginaliaref03_begins.f k a0 a1) (marginaliaref03_begins.f (k + 1) a0 a1) := by
 intro a0 a1 k; unfold marginaliaref03_begins.f
 repeat' first
   | (with_reducible exact marginaliaref03_sign.mono _ _ _)
   | (with_reducible exact LeO.refl _)
   | (with_reducible exact LeO.none _)
   | (with_reducible refine LeO.ite ?_ ?_)
   | (with_reducible refine LeO.bind ?_ (fun _ => ?_))
   | exact marginaliaref03_sign.mono _ _ _
   | exact LeO.none _
   | refine LeO.ite ?_ ?_
   | refine LeO.bind ?_ (fun _ => ?_)
set_option maxHeartbeats 8000000 in
set_option maxRecDepth 100000 in
theorem marginaliaref03_begins.calls (k : Nat) (a0 : ByteArray) (a1 : Int) (r : Bool) (w : World) (h : marginaliaref03_begins.f k a0 a1 = some r) :
  Calls Try.prog 63 #[.string a0, .int .i64 a1] w fun e w' => e = .returned (.bool r) ∧ Below w.heap.size w w' := by
 have HB := Aside0.mk (Below.refl w.heap.size w); have H : (if 0 ≤ a1 then (if a1 < (a0.size : Int) then ((marginaliaref03_Blank.f (bt a0 a1)).bind fun t242 => (if t242 = true then (some true) else ((marginaliaref03_Letter.f (bt a0 a1)).bind fun t243 => (if t243 = true then (some true) else ((marginaliaref03_Digit.f (bt a0 a1)).bind fun t244 => (if t244 = true then (some true) else (if (bt a0 a1) = 34 then (some true) else ((marginaliaref03_remark.f a0 a1).bind fun t245 => (if t245 = true then (some true) else ((marginaliaref03_sign.f k a0 a1).bind fun t246 => (some (decide (t246 > 0))))))))))))) else (none)) else (none)) = some r := h; clear h; replace H := zi1 H; obtain ⟨c3b0, H⟩ := H; replace H := zi1 H; obtain ⟨c4b0, H⟩ := H; replace H := zo H; obtain ⟨t242, A6, H⟩ := H; by_cases c7 : t242 = true
 ·subst c7; rw [if_pos rfl] at H; obtain rfl := Option.some.inj H; have p5 : (0 ≤ (a1 : Int)) = True := zT; have q5 : (a1 < (a0.size : Int)) = True := zT; have hx5 := bt_at a0 a1; go_enter Try.func63, Try.ntmps63
  go_wp2_with (first | ((with_reducible refine zG 54 rfl ?_); refine zg 10 Try.func54 ((marginaliaref03_Blank.calls (bt a0 a1) true _ A6.out).mono ?_); rintro e w' ⟨rfl, ⟨nd, rfl⟩⟩; refine ⟨_, rfl, ?_⟩))
  go_ret; exact ⟨zr, zb⟩
 ·replace c7 := Bool.eq_false_iff.mpr c7; subst c7; replace H := zf H; replace H := zo H; obtain ⟨t243, A8, H⟩ := H; by_cases c9 : t243 = true
  ·subst c9; rw [if_pos rfl] at H; obtain rfl := Option.some.inj H; have p5 : (0 ≤ (a1 : Int)) = True := zT; have q5 : (a1 < (a0.size : Int)) = True := zT; have hx5 := bt_at a0 a1; go_enter Try.func63, Try.ntmps63
   go_wp2_with (first | ((with_reducible refine zG 54 rfl ?_); refine zg 10 Try.func54 ((marginaliaref03_Blank.calls (bt a0 a1) false _ A6.out).mono ?_); rintro e w' ⟨rfl, ⟨nd, rfl⟩⟩; refine ⟨_, rfl, ?_⟩) | (go_at_call 57; (with_reducible refine (marginaliaref03_Letter.calls (bt a0 a1) true _ A8.out).mono ?_); rintro e w' ⟨rfl, ⟨nd, rfl⟩⟩))
   go_ret; exact ⟨zr, zb⟩
  ·replace c9 := Bool.eq_false_iff.mpr c9; subst c9; replace H := zf H; replace H := zo H; obtain ⟨t244, A10, H⟩ := H; by_cases c11 : t244 = true
   ·subst c11; rw [if_pos rfl] at H; obtain rfl := Option.some.inj H; have p5 : (0 ≤ (a1 : Int)) = True := zT; have q5 : (a1 < (a0.size : Int)) = True := zT; have hx5 := bt_at a0 a1; go_enter Try.func63, Try.ntmps63
    go_wp2_with (first | ((with_reducible refine zG 54 rfl ?_); refine zg 10 Try.func54 ((marginaliaref03_Blank.calls (bt a0 a1) false _ A6.out).mono ?_); rintro e w' ⟨rfl, ⟨nd, rfl⟩⟩; refine ⟨_, rfl, ?_⟩) | (go_at_call 57; (with_reducible refine (marginaliaref03_Letter.calls (bt a0 a1) false _ A8.out).mono ?_); rintro e w' ⟨rfl, ⟨nd, rfl⟩⟩) | (go_at_call 58; (with_reducible refine (marginaliaref03_Digit.calls (bt a0 a1) true _ A10.out).mono ?_); rintro e w' ⟨rfl, ⟨nd, rfl⟩⟩))
    go_ret; exact ⟨zr, zb⟩
   ·replace c11 := Bool.eq_false_iff.mpr c11; subst c11; replace H := zf H; by_cases c12 : (bt a0 a1) = 34
    ·rw [if_pos c12] at H; have c12b0 : ((bt a0 a1) == 34) = true := beq_iff_eq.mpr c12; have c12b1 : ((bt a0 a1) != 34) = false := bne_eq_false_iff_eq.mpr c12; clear c12; obtain rfl := Option.some.inj H; have p5 : (0 ≤ (a1 : Int)) = True := zT; have q5 : (a1 < (a0.size : Int)) = True := zT; have hx5 := bt_at a0 a1; go_enter Try.func63, Try.ntmps63
     go_wp2_with (first | ((with_reducible refine zG 54 rfl ?_); refine zg 10 Try.func54 ((marginaliaref03_Blank.calls (bt a0 a1) false _ A6.out).mono ?_); rintro e w' ⟨rfl, ⟨nd, rfl⟩⟩; refine ⟨_, rfl, ?_⟩) | (go_at_call 57; (with_reducible refine (marginaliaref03_Letter.calls (bt a0 a1) false _ A8.out).mono ?_); rintro e w' ⟨rfl, ⟨nd, rfl⟩⟩) | (go_at_call 58; (with_reducible refine (marginaliaref03_Digit.calls (bt a0 a1) false _ A10.out).mono ?_); rintro e w' ⟨rfl, ⟨nd, rfl⟩⟩))
     go_ret; exact ⟨zr, zb⟩
    ·rw [if_neg c12] at H; have c12b0 : ((bt a0 a1) == 34) = false := beq_eq_false_iff_ne.mpr c12; have c12b1 : ((bt a0 a1) != 34) = true := bne_iff_ne.mpr c12; replace H := zo H; obtain ⟨t245, A13, H⟩ := H; by_cases c14 : t245 = true
     ·subst c14; rw [if_pos rfl] at H; obtain rfl := Option.some.inj H; have p5 : (0 ≤ (a1 : Int)) = True := zT; have q5 : (a1 < (a0.size : Int)) = True := zT; have hx5 := bt_at a0 a1; go_enter Try.func63, Try.ntmps63
      go_wp2_with (first | ((with_reducible refine zG 54 rfl ?_); refine zg 10 Try.func54 ((marginaliaref03_Blank.calls (bt a0 a1) false _ A6.out).mono ?_); rintro e w' ⟨rfl, ⟨nd, rfl⟩⟩; refine ⟨_, rfl, ?_⟩) | (go_at_call 57; (with_reducible refine (marginaliaref03_Letter.calls (bt a0 a1) false _ A8.out).mono ?_); rintro e w' ⟨rfl, ⟨nd, rfl⟩⟩) | (go_at_call 58; (with_reducible refine (marginaliaref03_Digit.calls (bt a0 a1) false _ A10.out).mono ?_); rintro e w' ⟨rfl, ⟨nd, rfl⟩⟩) | (go_at_call 55; (with_reducible refine (marginaliaref03_remark.calls a0 a1 true _ A13.out).mono ?_); rintro e w' ⟨rfl, ⟨nd, rfl⟩⟩))
      go_ret; exact ⟨zr, zb⟩
     ·replace c14 := Bool.eq_false_iff.mpr c14; subst c14; replace H := zf H; replace H := zo H; obtain ⟨t246, A15, H⟩ := H; obtain rfl := Option.some.inj H; have p5 : (0 ≤ (a1 : Int)) = True := zT; have q5 : (a1 < (a0.size : Int)) = True := zT; have hx5 := bt_at a0 a1; go_enter Try.func63, Try.ntmps63
      go_wp2_with (first | ((with_reducible refine zG 54 rfl ?_); refine zg 10 Try.func54 ((marginaliaref03_Blank.calls (bt a0 a1) false _ A6.out).mono ?_); rintro e w' ⟨rfl, ⟨nd, rfl⟩⟩; refine ⟨_, rfl, ?_⟩) | (go_at_call 57; (with_reducible refine (marginaliaref03_Letter.calls (bt a0 a1) false _ A8.out).mono ?_); rintro e w' ⟨rfl, ⟨nd, rfl⟩⟩) | (go_at_call 58; (with_reducible refine (marginaliaref03_Digit.calls (bt a0 a1) false _ A10.out).mono ?_); rintro e w' ⟨rfl, ⟨nd, rfl⟩⟩) | (go_at_call 55; (with_reducible refine (marginaliaref03_remark.calls a0 a1 false _ A13.out).mono ?_); rintro e w' ⟨rfl, ⟨nd, rfl⟩⟩) | (go_at_call 62; (with_reducible refine (marginaliaref03_sign.calls k a0 a1 t246 _ A15.out).mono ?_); rintro e w16 ⟨rfl, hb⟩; replace HB := (zB hb); (try clear hb); (try clear hb2); (try clear hk); (try clear hi)))
      go_ret; exact ⟨zr, zb⟩

end Go.Proofs.Ytahcpappailjgaa.P

namespace Go.Proofs.Ytahcpappailjgaa.P
open Go.RowKit Go.Proofs.YtahcpappailjgaaW.PrintWords Go.Proofs.YtahcpappailjgaaW.PrintLast Go.Proofs.YtahcpappailjgaaW.PrintMore
attribute [local go_sem] max2_int min2_int max_two min_two max_three min_three max_four min_four
set_option linter.unusedVariables false
set_option linter.unusedSimpArgs false

/-! ### marginaliaref03_Next: function 40 -/
mutual
def marginaliaref03_Next.l0 : Nat → ByteArray → Int → Int → Option (Int × ByteArray)
 | 0, _, _, _ => none
 | k + 1, x0, x1, x6 => if x6 < (x0.size : Int) then (if 0 ≤ x6 then ((marginaliaref03_Blank.f (bt x0 x6)).bind fun t249 => (if t249 = true then (marginaliaref03_Next.l0 k x0 x1 (wrap64 (x6 + 1))) else (if 0 ≤ x1 then (if x1 ≤ x6 then (if x6 ≤ (x0.size : Int) then (some (1, x0.extract (x1 : Int).toNat (x6 : Int).toNat)) else (none)) else (none)) else (none)))) else (none)) else (if 0 ≤ x1 then (if x1 ≤ x6 then (if x6 ≤ (x0.size : Int) then (some (1, x0.extract (x1 : Int).toNat (x6 : Int).toNat)) else (none)) else (none)) else (none))
def marginaliaref03_Next.j2 : Nat → ByteArray → Int → Int → Option (Int × ByteArray)
 | 0, _, _, _ => none
 | k + 1, x0, x1, x6 => (marginaliaref03_Words.f).bind fun t255 => (if 0 ≤ x1 then (if x1 ≤ x6 then (if x6 ≤ (x0.size : Int) then ((marginaliaref03_has.f k t255 (x0.extract (x1 : Int).toNat (x6 : Int).toNat)).bind fun t258 => (if t258 = true then (some (4, x0.extract (x1 : Int).toNat (x6 : Int).toNat)) else (some (3, x0.extract (x1 : Int).toNat (x6 : Int).toNat)))) else (none)) else (none)) else (none))
def marginaliaref03_Next.l1 : Nat → ByteArray → Int → Int → Option (Int × ByteArray)
 | 0, _, _, _ => none
 | k + 1, x0, x1, x6 => if x6 < (x0.size : Int) then (if 0 ≤ x6 then ((marginaliaref03_Letter.f (bt x0 x6)).bind fun t253 => (if t253 = true then (marginaliaref03_Next.l1 k x0 x1 (wrap64 (x6 + 1))) else ((marginaliaref03_Digit.f (bt x0 x6)).bind fun t254 => (if t254 = true then (marginaliaref03_Next.l1 k x0 x1 (wrap64 (x6 + 1))) else (marginaliaref03_Next.j2 k x0 x1 x6))))) else (none)) else (marginaliaref03_Next.j2 k x0 x1 x6)
def marginaliaref03_Next.l2 : Nat → ByteArray → Int → Int → Option (Int × ByteArray)
 | 0, _, _, _ => none
 | k + 1, x0, x1, x6 => if x6 < (x0.size : Int) then (if 0 ≤ x6 then ((marginaliaref03_Digit.f (bt x0 x6)).bind fun t260 => (if t260 = true then (marginaliaref03_Next.l2 k x0 x1 (wrap64 (x6 + 1))) else (if 0 ≤ x1 then (if x1 ≤ x6 then (if x6 ≤ (x0.size : Int) then (some (5, x0.extract (x1 : Int).toNat (x6 : Int).toNat)) else (none)) else (none)) else (none)))) else (none)) else (if 0 ≤ x1 then (if x1 ≤ x6 then (if x6 ≤ (x0.size : Int) then (some (5, x0.extract (x1 : Int).toNat (x6 : Int).toNat)) else (none)) else (none)) else (none))
def marginaliaref03_Next.l3 : Nat → ByteArray → Int → Int → Option (Int × ByteArray)
 | 0, _, _, _ => none
 | k + 1, x0, x1, x6 => if x6 < (x0.size : Int) then ((marginaliaref03_begins.f k x0 x6).bind fun t264 => (if t264 = true then (if 0 ≤ x1 then (if x1 ≤ x6 then (if x6 ≤ (x0.size : Int) then (some (8, x0.extract (x1 : Int).toNat (x6 : Int).toNat)) else (none)) else (none)) else (none)) else (marginaliaref03_Next.l3 k x0 x1 (wrap64 (x6 + 1))))) else (if 0 ≤ x1 then (if x1 ≤ x6 then (if x6 ≤ (x0.size : Int) then (some (8, x0.extract (x1 : Int).toNat (x6 : Int).toNat)) else (none)) else (none)) else (none))
end
def marginaliaref03_Next.f (k : Nat) (a0 : ByteArray) (a1 : Int) : Option (Int × ByteArray) := if 0 ≤ a1 then (if a1 < (a0.size : Int) then ((marginaliaref03_Blank.f (bt a0 a1)).bind fun t248 => (if t248 = true then (marginaliaref03_Next.l0 k a0 a1 (wrap64 (a1 + 1))) else ((marginaliaref03_remark.f a0 a1).bind fun t250 => (if t250 = true then ((marginaliaref03_line.f k a0 a1).bind fun t251 => (if a1 ≤ t251 then (if t251 ≤ (a0.size : Int) then (some (2, a0.extract (a1 : Int).toNat (t251 : Int).toNat)) else (none)) else (none))) else ((marginaliaref03_Letter.f (bt a0 a1)).bind fun t252 => (if t252 = true then (marginaliaref03_Next.l1 k a0 a1 (wrap64 (a1 + 1))) else ((marginaliaref03_Digit.f (bt a0 a1)).bind fun t259 => (if t259 = true then (marginaliaref03_Next.l2 k a0 a1 (wrap64 (a1 + 1))) else (if (bt a0 a1) = 34 then ((marginaliaref03_quoted.f k a0 a1).bind fun t261 => (if t261 > 0 then (if a1 ≤ t261 then (if t261 ≤ (a0.size : Int) then (some (6, a0.extract (a1 : Int).toNat (t261 : Int).toNat)) else (none)) else (none)) else ((marginaliaref03_line.f k a0 a1).bind fun t262 => (if a1 ≤ t262 then (if t262 ≤ (a0.size : Int) then (some (8, a0.extract (a1 : Int).toNat (t262 : Int).toNat)) else (none)) else (none))))) else ((marginaliaref03_sign.f k a0 a1).bind fun t263 => (if t263 > 0 then (if a1 ≤ (wrap64 (a1 + t263)) then (if (wrap64 (a1 + t263)) ≤ (a0.size : Int) then (some (7, a0.extract (a1 : Int).toNat ((wrap64 (a1 + t263)) : Int).toNat)) else (none)) else (none)) else (marginaliaref03_Next.l3 k a0 a1 (wrap64 (a1 + 1)))))))))))))) else (none)) else (none)
theorem marginaliaref03_Next.mono_l : ∀ k, (∀ y0 y1 y2, LeO (marginaliaref03_Next.l0 k y0 y1 y2) (marginaliaref03_Next.l0 (k + 1) y0 y1 y2)) ∧ (∀ y0 y1 y2, LeO (marginaliaref03_Next.j2 k y0 y1 y2) (marginaliaref03_Next.j2 (k + 1) y0 y1 y2)) ∧ (∀ y0 y1 y2, LeO (marginaliaref03_Next.l1 k y0 y1 y2) (marginaliaref03_Next.l1 (k + 1) y0 y1 y2)) ∧ (∀ y0 y1 y2, LeO (marginaliaref03_Next.l2 k y0 y1 y2) (marginaliaref03_Next.l2 (k + 1) y0 y1 y2)) ∧ (∀ y0 y1 y2, LeO (marginaliaref03_Next.l3 k y0 y1 y2) (marginaliaref03_Next.l3 (k + 1) y0 y1 y2))
 | 0 => ⟨fun _ _ _ r h => by simp [marginaliaref03_Next.l0] at h, fun _ _ _ r h => by simp [marginaliaref03_Next.j2] at h, fun _ _ _ r h => by simp [marginaliaref03_Next.l1] at h, fun _ _ _ r h => by simp [marginaliaref03_Next.l2] at h, fun _ _ _ r h => by simp [marginaliaref03_Next.l3] at h⟩
 | k + 1 => by
  obtain ⟨ih0, ih1, ih2, ih3, ih4⟩ := marginaliaref03_Next.mono_l k; refine ⟨?_, ?_, ?_, ?_, ?_⟩
  (intro y0 y1 y2; unfold marginaliaref03_Next.l0); rotate_left
  (intro y0 y1 y2; unfold marginaliaref03_Next.j2); rotate_left
  (intro y0 y1 y2; unfold marginaliaref03_Next.l1); rotate_left
  (intro y0 y1 y2; unfold marginaliaref03_Next.l2); rotate_left
  (intro y0 y1 y2; unfold marginaliaref03_Next.l3); rotate_left
  all_goals repeat' first | (with_reducible exact ih0 _ _ _) | (with_reducible exact ih1 _ _ _) | (with_reducible exact ih2 _ _ _) | (with_reducible exact ih3 _ _ _) | (with_reducible exact ih4 _ _ _) | (with_reducible exact marginaliaref03_begins.mono _ _ _) | (with_reducible exact marginaliaref03_has.mono _ _ _) | (with_reducible exact marginaliaref03_line.mono _ _ _) | (with_reducible exact marginaliaref03_quoted.mono _ _ _) | (with_reducible exact marginaliaref03_sign.mono _ _ _) | (with_reducible exact LeO.refl _) | (with_reducible exact LeO.none _) | (with_reducible refine LeO.ite ?_ ?_) | (with_reducible refine LeO.bind ?_ (fun _ => ?_)) | exact ih0 _ _ _ | exact ih1 _ _ _ | exact ih2 _ _ _ | exact ih3 _ _ _ | exact ih4 _ _ _ | exact marginaliaref03_begins.mono _ _ _ | exact marginaliaref03_has.mono _ _ _ | exact marginaliaref03_line.mono _ _ _ | exact marginaliaref03_quoted.mono _ _ _ | exact marginaliaref03_sign.mono _ _ _ | exact LeO.none _ | refine LeO.ite ?_ ?_ | refine LeO.bind ?_ (fun _ => ?_)
theorem marginaliaref03_Next.mono : ∀ a0 a1 k, LeO (marginaliaref03_Next.f k a0 a1) (marginaliaref03_Next.f (k + 1) a0 a1) := by
 intro a0 a1 k; obtain ⟨ih0, ih1, ih2, ih3, ih4⟩ := marginaliaref03_Next.mono_l k; unfold marginaliaref03_Next.f
 repeat' first
   | (with_reducible exact ih0 _ _ _)
   | (with_reducible exact ih1 _ _ _)
   | (with_reducible exact ih2 _ _ _)
   | (with_reducible exact ih3 _ _ _)
   | (with_reducible exact ih4 _ _ _)
   | (with_reducible exact marginaliaref03_begins.mono _ _ _)
   | (with_reducible exact marginaliaref03_has.mono _ _ _)
   | (with_reducible exact marginaliaref03_line.mono _ _ _)
   | (with_reducible exact marginaliaref03_quoted.mono _ _ _)
   | (with_reducible exact marginaliaref03_sign.mono _ _ _)
   | (with_reducible exact LeO.refl _)
   | (with_reducible exact LeO.none _)
   | (with_reducible refine LeO.ite ?_ ?_)
   | (with_reducible refine LeO.bind ?_ (fun _ => ?_))
   | exact ih0 _ _ _
   | exact ih1 _ _ _
   | exact ih2 _ _ _
   | exact ih3 _ _ _
   | exact ih4 _ _ _
   | exact marginaliaref03_begins.mono _ _ _
   | exact marginaliaref03_has.mono _ _ _
   | exact marginaliaref03_line.mono _ _ _
   | exact marginaliaref03_quoted.mono _ _ _
   | exact marginaliaref03_sign.mono _ _ _
   | exact LeO.none _
   | refine LeO.ite ?_ ?_
   | refine LeO.bind ?_ (fun _ => ?_)
set_option maxHeartbeats 8000000 in
set_option maxRecDepth 100000 in
theorem marginaliaref03_Next.calls (k : Nat) (a0 : ByteArray) (a1 : Int) (r1 : Int) (r2 : ByteArray) (w : World) (h : marginaliaref03_Next.f k a0 a1 = some (r1, r2)) :
  Calls Try.prog 40 #[.string a0, .int .i64 a1] w fun e w' => e = .returned (.agg #[.int .i64 r1, .string r2]) ∧ Below w.heap.size w w' := by
 have hu59 := Try.underlying59; have HB := Aside0.mk (Below.refl w.heap.size w); have H : (if 0 ≤ a1 then (if a1 < (a0.size : Int) then ((marginaliaref03_Blank.f (bt a0 a1)).bind fun t248 => (if t248 = true then (marginaliaref03_Next.l0 k a0 a1 (wrap64 (a1 + 1))) else ((marginaliaref03_remark.f a0 a1).bind fun t250 => (if t250 = true then ((marginaliaref03_line.f k a0 a1).bind fun t251 => (if a1 ≤ t251 then (if t251 ≤ (a0.size : Int) then (some (2, a0.extract (a1 : Int).toNat (t251 : Int).toNat)) else (none)) else (none))) else ((marginaliaref03_Letter.f (bt a0 a1)).bind fun t252 => (if t252 = true then (marginaliaref03_Next.l1 k a0 a1 (wrap64 (a1 + 1))) else ((marginaliaref03_Digit.f (bt a0 a1)).bind fun t259 => (if t259 = true then (marginaliaref03_Next.l2 k a0 a1 (wrap64 (a1 + 1))) else (if (bt a0 a1) = 34 then ((marginaliaref03_quoted.f k a0 a1).bind fun t261 => (if t261 > 0 then (if a1 ≤ t261 then (if t261 ≤ (a0.size : Int) then (some (6, a0.extract (a1 : Int).toNat (t261 : Int).toNat)) else (none)) else (none)) else ((marginaliaref03_line.f k a0 a1).bind fun t262 => (if a1 ≤ t262 then (if t262 ≤ (a0.size : Int) then (some (8, a0.extract (a1 : Int).toNat (t262 : Int).toNat)) else (none)) else (none))))) else ((marginaliaref03_sign.f k a0 a1).bind fun t263 => (if t263 > 0 then (if a1 ≤ (wrap64 (a1 + t263)) then (if (wrap64 (a1 + t263)) ≤ (a0.size : Int) then (some (7, a0.extract (a1 : Int).toNat ((wrap64 (a1 + t263)) : Int).toNat)) else (none)) else (none)) else (marginaliaref03_Next.l3 k a0 a1 (wrap64 (a1 + 1)))))))))))))) else (none)) else (none)) = some (r1, r2) := h; clear h; replace H := zi1 H; obtain ⟨c3b0, H⟩ := H; replace H := zi1 H; obtain ⟨c4b0, H⟩ := H; replace H := zo H; obtain ⟨t248, A6, H⟩ := H; by_cases c7 : t248 = true
 ·subst c7; rw [if_pos rfl] at H; have H' := Aside0.mk H; clear H; go_enter Try.func40, Try.ntmps40
  go_wp2_with (first | ((with_reducible refine zD 4 rfl ?_); refine zx 4 #[.int .i64 0, .string (⟨#[]⟩ : ByteArray)] 59 ?_; intro gb247 hg w8 hbox hb; have BK247 := Aside0.mk (hbox); have GW247 := (zq hg : Aside0 (w.heap.size ≤ gb247)); have GE247 := GW247; replace HB := (zB hb); clear hb hbox hg; have p5 : (0 ≤ (a1 : Int)) = True := zT; have q5 : (a1 < (a0.size : Int)) = True := zT; have hx5 := bt_at a0 a1) | ((with_reducible refine zG 54 rfl ?_); refine zg 15 Try.func54 ((marginaliaref03_Blank.calls (bt a0 a1) true _ A6.out).mono ?_); rintro e w' ⟨rfl, ⟨nd, rfl⟩⟩; refine ⟨_, rfl, ?_⟩))
  go_loopg [6] k (fun kq v6 w' => ∃ (x6_1 : Int), v6 = .int .i64 x6_1 ∧ Aside0 (marginaliaref03_Next.l0 kq a0 a1 x6_1 = some (r1, r2)) ∧ Aside0 (kq ≤ k) ∧ Aside0 (w'.heap[gb247]? = some (.cells #[.int .i64 0, .string (⟨#[]⟩ : ByteArray)] 59 (0, 0))) ∧ Aside0 (Below w.heap.size w w'))
  case atStart => exact ⟨(wrap64 (a1 + 1)), zs, H', ⟨Nat.le_refl _⟩, (zA BK247), ⟨zb⟩⟩
  case round =>
   clear H'; obtain ⟨x6_1, rfl, HA, HK1, BK247, HB⟩ := hrel
   cases gk with
   | zero => exact absurd HA.out (by simp [marginaliaref03_Next.l0])
   | succ k1 =>
    have H := HA.out; clear HA; simp only [marginaliaref03_Next.l0] at H; by_cases c9 : x6_1 < (a0.size : Int)
    ·rw [if_pos c9] at H; have c9b0 := decide_eq_true c9; clear c9; replace H := zi1 H; obtain ⟨c10b0, H⟩ := H; replace H := zo H; obtain ⟨t249, A12, H⟩ := H; by_cases c13 : t249 = true
     ·subst c13; rw [if_pos rfl] at H; have H' := Aside0.mk H; clear H; have p11 : (0 ≤ (x6_1 : Int)) = True := zT; have q11 : (x6_1 < (a0.size : Int)) = True := zT; have hx11 := bt_at a0 x6_1
      go_wp2_with (first | (go_at_call 54; (with_reducible refine (marginaliaref03_Blank.calls (bt a0 x6_1) true _ A12.out).mono ?_); rintro e w' ⟨rfl, ⟨nd, rfl⟩⟩))
      go_roundg k1
      case measure => have := HK1.out; omega
      case rel => exact ⟨(wrap64 (x6_1 + 1)), zs, H', zk, (zA BK247), ⟨zb⟩⟩
     ·replace c13 := Bool.eq_false_iff.mpr c13; subst c13; replace H := zf H; replace H := zi2 H; obtain ⟨c14b0, c14b1, H⟩ := H; replace H := zi2 H; obtain ⟨c15b0, c15b1, H⟩ := H; replace H := zi2 H; obtain ⟨c16b0, c16b1, H⟩ := H; simp only [Option.some.injEq, Prod.mk.injEq] at H; obtain ⟨rfl, rfl⟩ := H; have p11 : (0 ≤ (x6_1 : Int)) = True := zT; have q11 : (x6_1 < (a0.size : Int)) = True := zT; have hx11 := bt_at a0 x6_1
      go_wp2_with (first | (go_at_call 54; (with_reducible refine (marginaliaref03_Blank.calls (bt a0 x6_1) false _ A12.out).mono ?_); rintro e wr ⟨rfl, hd⟩; replace BK247 := zn hd BK247; replace HB := zm hd HB; clear hd; obtain ⟨hcz17_0, hcz17_1⟩ := zc2 BK247; obtain ⟨hfz17_0, hfz17_1⟩ := zz2 BK247))
      refine bodyPost_ret (results_cell_row rfl _ _ gb247 59 #[.int .i64 1, .string (a0.extract (a1 : Int).toNat (x6_1 : Int).toNat)] (0, 0) _ rfl zw Try.underlying59 rfl (by kernel_rfl)) rfl ?_; exact ⟨zr, zb⟩
    ·rw [if_neg c9] at H; have c9b0 := decide_eq_false c9; clear c9; replace H := zi2 H; obtain ⟨c18b0, c18b1, H⟩ := H; replace H := zi2 H; obtain ⟨c19b0, c19b1, H⟩ := H; replace H := zi2 H; obtain ⟨c20b0, c20b1, H⟩ := H; simp only [Option.some.injEq, Prod.mk.injEq] at H; obtain ⟨rfl, rfl⟩ := H; obtain ⟨hcz21_0, hcz21_1⟩ := zc2 BK247; obtain ⟨hfz21_0, hfz21_1⟩ := zz2 BK247; go_wp2; refine bodyPost_ret (results_cell_row rfl _ _ gb247 59 #[.int .i64 1, .string (a0.extract (a1 : Int).toNat (x6_1 : Int).toNat)] (0, 0) _ rfl zw Try.underlying59 rfl (by kernel_rfl)) rfl ?_; exact ⟨zr, zb⟩
 ·replace c7 := Bool.eq_false_iff.mpr c7; subst c7; replace H := zf H; replace H := zo H; obtain ⟨t250, A22, H⟩ := H; by_cases c23 : t250 = true
  ·subst c23; rw [if_pos rfl] at H; replace H := zo H; obtain ⟨t251, A24, H⟩ := H; have c25b0 := eq_true (zt : 0 ≤ a1); replace H := zi2 H; obtain ⟨c26b0, c26b1, H⟩ := H; replace H := zi2 H; obtain ⟨c27b0, c27b1, H⟩ := H; simp only [Option.some.injEq, Prod.mk.injEq] at H; obtain ⟨rfl, rfl⟩ := H; go_enter Try.func40, Try.ntmps40
   go_wp2_with (first | ((with_reducible refine zD 4 rfl ?_); refine zx 4 #[.int .i64 0, .string (⟨#[]⟩ : ByteArray)] 59 ?_; intro gb247 hg w28 hbox hb; have BK247 := Aside0.mk (hbox); have GW247 := (zq hg : Aside0 (w.heap.size ≤ gb247)); have GE247 := GW247; replace HB := (zB hb); clear hb hbox hg; have p5 : (0 ≤ (a1 : Int)) = True := zT; have q5 : (a1 < (a0.size : Int)) = True := zT; have hx5 := bt_at a0 a1) | ((with_reducible refine zG 54 rfl ?_); refine zg 15 Try.func54 ((marginaliaref03_Blank.calls (bt a0 a1) false _ A6.out).mono ?_); rintro e w28 ⟨rfl, hd⟩; refine ⟨_, rfl, ?_⟩; replace BK247 := zn hd BK247; replace HB := zm hd HB; clear hd) | ((with_reducible refine zG 55 rfl ?_); refine zg 36 Try.func55 ((marginaliaref03_remark.calls a0 a1 true _ A22.out).mono ?_); rintro e w28 ⟨rfl, hd⟩; refine ⟨_, rfl, ?_⟩; replace BK247 := zn hd BK247; replace HB := zm hd HB; clear hd) | ((with_reducible refine zG 56 rfl ?_); refine zg 41 Try.func56 ((marginaliaref03_line.calls k a0 a1 t251 _ A24.out).mono ?_); rintro e w28 ⟨rfl, hd⟩; refine ⟨_, rfl, ?_⟩; replace BK247 := zn hd BK247; replace HB := zm hd HB; clear hd; obtain ⟨hcz29_0, hcz29_1⟩ := zc2 BK247; obtain ⟨hfz29_0, hfz29_1⟩ := zz2 BK247))
   refine bodyPost_ret (results_cell_row rfl _ _ gb247 59 #[.int .i64 2, .string (a0.extract (a1 : Int).toNat (t251 : Int).toNat)] (0, 0) _ rfl zw Try.underlying59 rfl (by kernel_rfl)) rfl ?_; exact ⟨zr, zb⟩
  ·replace c23 := Bool.eq_false_iff.mpr c23; subst c23; replace H := zf H; replace H := zo H; obtain ⟨t252, A30, H⟩ := H; by_cases c31 : t252 = true
   ·subst c31; rw [if_pos rfl] at H; have HC32 := Aside0.mk H; clear H; go_enter Try.func40, Try.ntmps40
    go_upto_block 3 with (first | ((with_reducible refine zD 4 rfl ?_); refine zx 4 #[.int .i64 0, .string (⟨#[]⟩ : ByteArray)] 59 ?_; intro gb247 hg w33 hbox hb; have BK247 := Aside0.mk (hbox); have GW247 := (zq hg : Aside0 (w.heap.size ≤ gb247)); have GE247 := GW247; replace HB := (zB hb); clear hb hbox hg; have p5 : (0 ≤ (a1 : Int)) = True := zT; have q5 : (a1 < (a0.size : Int)) = True := zT; have hx5 := bt_at a0 a1) | ((with_reducible refine zG 54 rfl ?_); refine zg 15 Try.func54 ((marginaliaref03_Blank.calls (bt a0 a1) false _ A6.out).mono ?_); rintro e w' ⟨rfl, ⟨nd, rfl⟩⟩; refine ⟨_, rfl, ?_⟩) | ((with_reducible refine zG 55 rfl ?_); refine zg 36 Try.func55 ((marginaliaref03_remark.calls a0 a1 false _ A22.out).mono ?_); rintro e w' ⟨rfl, ⟨nd, rfl⟩⟩; refine ⟨_, rfl, ?_⟩) | ((with_reducible refine zG 57 rfl ?_); refine zg 46 Try.func57 ((marginaliaref03_Letter.calls (bt a0 a1) true _ A30.out).mono ?_); rintro e w' ⟨rfl, ⟨nd, rfl⟩⟩; refine ⟨_, rfl, ?_⟩))
    (try simp only [Act.put, List.setIfInBounds_toArray, List.set_cons_zero, List.set_cons_succ])
    go_cut [6] (fun v6 wc => ∃ (kq : Nat) (x6_31 : Int), v6 = .int .i64 x6_31 ∧ Aside0 (marginaliaref03_Next.j2 kq a0 a1 x6_31 = some (r1, r2)) ∧ Aside0 (kq ≤ k) ∧ Aside0 (wc.heap[gb247]? = some (.cells #[.int .i64 0, .string (⟨#[]⟩ : ByteArray)] 59 (0, 0))) ∧ Aside0 (Below w.heap.size w wc))
    case first =>
     have H := HC32.out; clear HC32; have H' := Aside0.mk H; clear H; go_wp2
     go_loopg [6] k (fun kq v6 w' => ∃ (x6_1 : Int), v6 = .int .i64 x6_1 ∧ Aside0 (marginaliaref03_Next.l1 kq a0 a1 x6_1 = some (r1, r2)) ∧ Aside0 (kq ≤ k) ∧ Aside0 (w'.heap[gb247]? = some (.cells #[.int .i64 0, .string (⟨#[]⟩ : ByteArray)] 59 (0, 0))) ∧ Aside0 (Below w.heap.size w w'))
     case atStart => exact ⟨(wrap64 (a1 + 1)), zs, H', ⟨Nat.le_refl _⟩, (zA BK247), ⟨zb⟩⟩
     case round =>
      clear H'; obtain ⟨x6_1, rfl, HA, HK1, BK247, HB⟩ := hrel
      cases gk with
      | zero => exact absurd HA.out (by simp [marginaliaref03_Next.l1])
      | succ k1 =>
       have H := HA.out; clear HA; simp only [marginaliaref03_Next.l1] at H; by_cases c34 : x6_1 < (a0.size : Int)
       ·rw [if_pos c34] at H; have c34b0 := decide_eq_true c34; clear c34
        (first | rw [c34b0] | (simp only [i64_w, i32_w]; rw [c34b0]) | skip)
        replace H := zi1 H; obtain ⟨c35b0, H⟩ := H; replace H := zo H; obtain ⟨t253, A37, H⟩ := H; by_cases c38 : t253 = true
        ·subst c38; rw [if_pos rfl] at H; have H' := Aside0.mk H; clear H; have p36 : (0 ≤ (x6_1 : Int)) = True := zT; have q36 : (x6_1 < (a0.size : Int)) = True := zT; have hx36 := bt_at a0 x6_1
         go_wp2_with (first | (go_at_call 57; (with_reducible refine (marginaliaref03_Letter.calls (bt a0 x6_1) true _ A37.out).mono ?_); rintro e w' ⟨rfl, ⟨nd, rfl⟩⟩))
         go_roundg k1
         case measure => have := HK1.out; omega
         case rel => exact ⟨(wrap64 (x6_1 + 1)), zs, H', zk, (zA BK247), ⟨zb⟩⟩
        ·replace c38 := Bool.eq_false_iff.mpr c38; subst c38; replace H := zf H; replace H := zo H; obtain ⟨t254, A40, H⟩ := H; by_cases c41 : t254 = true
         ·subst c41; rw [if_pos rfl] at H; have H' := Aside0.mk H; clear H; have p36 : (0 ≤ (x6_1 : Int)) = True := zT; have q36 : (x6_1 < (a0.size : Int)) = True := zT; have hx36 := bt_at a0 x6_1
          go_wp2_with (first | (go_at_call 57; (with_reducible refine (marginaliaref03_Letter.calls (bt a0 x6_1) false _ A37.out).mono ?_); rintro e w' ⟨rfl, ⟨nd, rfl⟩⟩; have p39 : (0 ≤ (x6_1 : Int)) = True := zT; have q39 : (x6_1 < (a0.size : Int)) = True := zT; have hx39 := bt_at a0 x6_1) | (go_at_call 58; (with_reducible refine (marginaliaref03_Digit.calls (bt a0 x6_1) true _ A40.out).mono ?_); rintro e w' ⟨rfl, ⟨nd, rfl⟩⟩))
          go_roundg k1
          case measure => have := HK1.out; omega
          case rel => exact ⟨(wrap64 (x6_1 + 1)), zs, H', zk, (zA BK247), ⟨zb⟩⟩
         ·replace c41 := Bool.eq_false_iff.mpr c41; subst c41; replace H := zf H; have H' := Aside0.mk H; clear H; have p36 : (0 ≤ (x6_1 : Int)) = True := zT; have q36 : (x6_1 < (a0.size : Int)) = True := zT; have hx36 := bt_at a0 x6_1
          go_wp2_with (first | (go_at_call 57; (with_reducible refine (marginaliaref03_Letter.calls (bt a0 x6_1) false _ A37.out).mono ?_); rintro e w' ⟨rfl, ⟨nd, rfl⟩⟩; have p39 : (0 ≤ (x6_1 : Int)) = True := zT; have q39 : (x6_1 < (a0.size : Int)) = True := zT; have hx39 := bt_at a0 x6_1) | (go_at_call 58; (with_reducible refine (marginaliaref03_Digit.calls (bt a0 x6_1) false _ A40.out).mono ?_); rintro e w' ⟨rfl, ⟨nd, rfl⟩⟩))
          go_meet
          case rel => exact ⟨_, (x6_1), zs, H', zk, (zA BK247), ⟨zb⟩⟩
       ·rw [if_neg c34] at H; have c34b0 := decide_eq_false c34; clear c34
        (first | rw [c34b0] | (simp only [i64_w, i32_w]; rw [c34b0]) | skip)
        have H' := Aside0.mk H; clear H; go_wp2
        go_meet
        case rel => exact ⟨_, (x6_1), zs, H', zk, (zA BK247), ⟨zb⟩⟩
    case rest =>
     clear HC32; obtain ⟨kq, x6_31, rfl, HA, HJ31, BK247, HB⟩ := hcut
     cases kq with
     | zero => exact absurd HA.out (by simp [marginaliaref03_Next.j2])
     | succ kj31 =>
      have H := HA.out; clear HA; simp only [marginaliaref03_Next.j2] at H; replace H := zo H; obtain ⟨t255, A42, H⟩ := H; replace H := zi2 H; obtain ⟨c43b0, c43b1, H⟩ := H; replace H := zi2 H; obtain ⟨c44b0, c44b1, H⟩ := H; replace H := zi2 H; obtain ⟨c45b0, c45b1, H⟩ := H; replace H := zo H; obtain ⟨t258, A46, H⟩ := H; by_cases c47 : t258 = true
      ·subst c47; rw [if_pos rfl] at H; have c48b0 := eq_true (zt : 0 ≤ a1); have c49b0 := eq_true (zt : a1 ≤ x6_31); have c50b0 := eq_true (zt : x6_31 ≤ (a0.size : Int)); simp only [Option.some.injEq, Prod.mk.injEq] at H; obtain ⟨rfl, rfl⟩ := H
       try go_wp2
       replace BK247 := Aside0.mk (blk_drew BK247.out); replace HB := Aside0.mk (below_drew1 HB.out); refine start_ (n := 6) (S := fun w' => True) (ds := []) #[false, false, false, false, false, false] (by kernel_rfl) rfl rfl trivial (fun hHeld => ?_); generalize wc.drew = w51 at BK247 HB hHeld ⊢; refine pure_ (i := 1) (N := some 66) (v := ?_) (a' := ?_) #[false, true, false, false, false, false] rfl rfl (by kernel_rfl) (fun _ _ _ h => h) (Or.inl ⟨by rfl, ?_⟩) ?_ ?_; rotate_left
       ·intro w'; go_simp; with_reducible rfl
       rotate_left
       ·simp only [Act.put, List.setIfInBounds_toArray, List.set_cons_zero, List.set_cons_succ, i64_w, i32_w]; rfl
       refine pure_ (i := 2) (N := some 67) (v := ?_) (a' := ?_) #[false, true, true, false, false, false] rfl rfl (by kernel_rfl) (fun _ _ _ h => h) (Or.inl ⟨by rfl, ?_⟩) ?_ ?_; rotate_left
       ·intro w'; go_simp; with_reducible rfl
       rotate_left
       ·simp only [Act.put, List.setIfInBounds_toArray, List.set_cons_zero, List.set_cons_succ, i64_w, i32_w]; rfl
       refine pure_ (i := 3) (N := some 68) (v := ?_) (a' := ?_) #[false, true, true, true, false, false] rfl rfl (by kernel_rfl) (fun _ _ _ h => h) (Or.inl ⟨by rfl, ?_⟩) ?_ ?_; rotate_left
       ·intro w'; go_simp; with_reducible rfl
       rotate_left
       ·simp only [Act.put, List.setIfInBounds_toArray, List.set_cons_zero, List.set_cons_succ, i64_w, i32_w]; rfl
       refine pure_ (i := 4) (N := some 69) (v := ?_) (a' := ?_) #[false, true, true, true, true, false] rfl rfl (by kernel_rfl) (fun _ _ _ h => h) (Or.inl ⟨by rfl, ?_⟩) ?_ ?_; rotate_left
       ·intro w'; go_simp; with_reducible rfl
       rotate_left
       ·simp only [Act.put, List.setIfInBounds_toArray, List.set_cons_zero, List.set_cons_succ, i64_w, i32_w]; rfl
       refine one_ (i := 0) (N := some 65) #[true, true, true, true, true, false] rfl rfl (by kernel_rfl) (by decide) (fun K hK => ?_); refine goes_ Try.func60 (by kernel_rfl) rfl #[] (by rfl) rfl rfl (by (try simp only [List.map_toArray, List.map_cons, List.map_nil]); first | done | rfl | (simp only [List.length_drop, List.length_take]; rfl)) ?_
       with_reducible refine (marginaliaref03_Words.calls  t255 _ A42.out).mono ?_
       rintro e w52 ⟨v256, rfl, ho0, hb⟩; refine ⟨_, rfl, ?_⟩; have HO257 := Aside0.mk (Kd.R_lower ho0 (below_size zb))
       replace BK247 := (zK BK247 hb)
       replace HB := (zB hb)
       (try clear hb)
       (try clear hb2)
       (try clear hk)
       (try clear hi)
       (try clear ho0)
       obtain ⟨Ao53, co53, eo53⟩ := Kd.R_slice HO257.out
       (first | subst eo53 | (injection eo53 with f1_ f2_ f3_; have f4_ := f1_.symm; have f5_ := f3_.symm; clear f1_ f2_ f3_; subst f4_; subst f5_))
       refine hK.out _ _ trivial (fun hHeld => ?_); clear hK K; refine norm_ (a' := ?_) ?_ ?_; rotate_left
       ·show Act.put _ (some 65) _ = _
        simp only [Act.put, List.setIfInBounds_toArray, List.set_cons_zero, List.set_cons_succ, i64_w, i32_w]; rfl
       refine one_ (i := 5) (N := some 70) #[true, true, true, true, true, true] rfl rfl (by kernel_rfl) (by decide) (fun K hK => ?_); refine goes_ Try.func59 (by kernel_rfl) rfl #[.slice Ao53 t255.length co53, .string (a0.extract (a1 : Int).toNat (x6_31 : Int).toNat)] (by rfl) rfl rfl (by (try simp only [List.map_toArray, List.map_cons, List.map_nil]); first | done | rfl | (simp only [List.length_drop, List.length_take]; rfl)) ?_
       with_reducible refine (marginaliaref03_has.calls kj31 _ _ t255 (a0.extract (a1 : Int).toNat (x6_31 : Int).toNat) true _ ?side1 ?side2 A46.out).mono ?_
       (case side1 => exact zE' (Kd.R_reads' HO257.out).2.2)
       (case side2 => exact (Kd.R_reads' HO257.out).2.1)
       rintro e w' ⟨rfl, ⟨nd, rfl⟩⟩; refine ⟨_, rfl, ?_⟩; refine hK.out _ _ trivial (fun hHeld => ?_); clear hK K; refine norm_ (a' := ?_) ?_ ?_; rotate_left
       ·show Act.put _ (some 70) _ = _
        simp only [Act.put, List.setIfInBounds_toArray, List.set_cons_zero, List.set_cons_succ, i64_w, i32_w]; rfl
       refine done_ (by kernel_rfl) ?_; obtain ⟨hcz54_0, hcz54_1⟩ := zc2 BK247; obtain ⟨hfz54_0, hfz54_1⟩ := zz2 BK247
       try go_wp2
       refine bodyPost_ret (results_cell_row rfl _ _ gb247 59 #[.int .i64 4, .string (a0.extract (a1 : Int).toNat (x6_31 : Int).toNat)] (0, 0) _ rfl zw Try.underlying59 rfl (by kernel_rfl)) rfl ?_; exact ⟨zr, zb⟩
      ·replace c47 := Bool.eq_false_iff.mpr c47; subst c47; replace H := zf H; have c55b0 := eq_true (zt : 0 ≤ a1); have c56b0 := eq_true (zt : a1 ≤ x6_31); have c57b0 := eq_true (zt : x6_31 ≤ (a0.size : Int)); simp only [Option.some.injEq, Prod.mk.injEq] at H; obtain ⟨rfl, rfl⟩ := H
       try go_wp2
       replace BK247 := Aside0.mk (blk_drew BK247.out); replace HB := Aside0.mk (below_drew1 HB.out); refine start_ (n := 6) (S := fun w' => True) (ds := []) #[false, false, false, false, false, false] (by kernel_rfl) rfl rfl trivial (fun hHeld => ?_); generalize wc.drew = w58 at BK247 HB hHeld ⊢; refine pure_ (i := 1) (N := some 66) (v := ?_) (a' := ?_) #[false, true, false, false, false, false] rfl rfl (by kernel_rfl) (fun _ _ _ h => h) (Or.inl ⟨by rfl, ?_⟩) ?_ ?_; rotate_left
       ·intro w'; go_simp; with_reducible rfl
       rotate_left
       ·simp only [Act.put, List.setIfInBounds_toArray, List.set_cons_zero, List.set_cons_succ, i64_w, i32_w]; rfl
       refine pure_ (i := 2) (N := some 67) (v := ?_) (a' := ?_) #[false, true, true, false, false, false] rfl rfl (by kernel_rfl) (fun _ _ _ h => h) (Or.inl ⟨by rfl, ?_⟩) ?_ ?_; rotate_left
       ·intro w'; go_simp; with_reducible rfl
       rotate_left
       ·simp only [Act.put, List.setIfInBounds_toArray, List.set_cons_zero, List.set_cons_succ, i64_w, i32_w]; rfl
       refine pure_ (i := 3) (N := some 68) (v := ?_) (a' := ?_) #[false, true, true, true, false, false] rfl rfl (by kernel_rfl) (fun _ _ _ h => h) (Or.inl ⟨by rfl, ?_⟩) ?_ ?_; rotate_left
       ·intro w'; go_simp; with_reducible rfl
       rotate_left
       ·simp only [Act.put, List.setIfInBounds_toArray, List.set_cons_zero, List.set_cons_succ, i64_w, i32_w]; rfl
       refine pure_ (i := 4) (N := some 69) (v := ?_) (a' := ?_) #[false, true, true, true, true, false] rfl rfl (by kernel_rfl) (fun _ _ _ h => h) (Or.inl ⟨by rfl, ?_⟩) ?_ ?_; rotate_left
       ·intro w'; go_simp; with_reducible rfl
       rotate_left
       ·simp only [Act.put, List.setIfInBounds_toArray, List.set_cons_zero, List.set_cons_succ, i64_w, i32_w]; rfl
       refine one_ (i := 0) (N := some 65) #[true, true, true, true, true, false] rfl rfl (by kernel_rfl) (by decide) (fun K hK => ?_); refine goes_ Try.func60 (by kernel_rfl) rfl #[] (by rfl) rfl rfl (by (try simp only [List.map_toArray, List.map_cons, List.map_nil]); first | done | rfl | (simp only [List.length_drop, List.length_take]; rfl)) ?_
       with_reducible refine (marginaliaref03_Words.calls  t255 _ A42.out).mono ?_
       rintro e w59 ⟨v256, rfl, ho0, hb⟩; refine ⟨_, rfl, ?_⟩; have HO257 := Aside0.mk (Kd.R_lower ho0 (below_size zb))
       replace BK247 := (zK BK247 hb)
       replace HB := (zB hb)
       (try clear hb)
       (try clear hb2)
       (try clear hk)
       (try clear hi)
       (try clear ho0)
       obtain ⟨Ao60, co60, eo60⟩ := Kd.R_slice HO257.out
       (first | subst eo60 | (injection eo60 with f1_ f2_ f3_; have f4_ := f1_.symm; have f5_ := f3_.symm; clear f1_ f2_ f3_; subst f4_; subst f5_))
       refine hK.out _ _ trivial (fun hHeld => ?_); clear hK K; refine norm_ (a' := ?_) ?_ ?_; rotate_left
       ·show Act.put _ (some 65) _ = _
        simp only [Act.put, List.setIfInBounds_toArray, List.set_cons_zero, List.set_cons_succ, i64_w, i32_w]; rfl
       refine one_ (i := 5) (N := some 70) #[true, true, true, true, true, true] rfl rfl (by kernel_rfl) (by decide) (fun K hK => ?_); refine goes_ Try.func59 (by kernel_rfl) rfl #[.slice Ao60 t255.length co60, .string (a0.extract (a1 : Int).toNat (x6_31 : Int).toNat)] (by rfl) rfl rfl (by (try simp only [List.map_toArray, List.map_cons, List.map_nil]); first | done | rfl | (simp only [List.length_drop, List.length_take]; rfl)) ?_
       with_reducible refine (marginaliaref03_has.calls kj31 _ _ t255 (a0.extract (a1 : Int).toNat (x6_31 : Int).toNat) false _ ?side1 ?side2 A46.out).mono ?_
       (case side1 => exact zE' (Kd.R_reads' HO257.out).2.2)
       (case side2 => exact (Kd.R_reads' HO257.out).2.1)
       rintro e w' ⟨rfl, ⟨nd, rfl⟩⟩; refine ⟨_, rfl, ?_⟩; refine hK.out _ _ trivial (fun hHeld => ?_); clear hK K; refine norm_ (a' := ?_) ?_ ?_; rotate_left
       ·show Act.put _ (some 70) _ = _
        simp only [Act.put, List.setIfInBounds_toArray, List.set_cons_zero, List.set_cons_succ, i64_w, i32_w]; rfl
       refine done_ (by kernel_rfl) ?_; obtain ⟨hcz61_0, hcz61_1⟩ := zc2 BK247; obtain ⟨hfz61_0, hfz61_1⟩ := zz2 BK247
       try go_wp2
       refine bodyPost_ret (results_cell_row rfl _ _ gb247 59 #[.int .i64 3, .string (a0.extract (a1 : Int).toNat (x6_31 : Int).toNat)] (0, 0) _ rfl zw Try.underlying59 rfl (by kernel_rfl)) rfl ?_; exact ⟨zr, zb⟩
   ·replace c31 := Bool.eq_false_iff.mpr c31; subst c31; replace H := zf H; replace H := zo H; obtain ⟨t259, A62, H⟩ := H; by_cases c63 : t259 = true
    ·subst c63; rw [if_pos rfl] at H; have H' := Aside0.mk H; clear H; go_enter Try.func40, Try.ntmps40
     go_wp2_with (first | ((with_reducible refine zD 4 rfl ?_); refine zx 4 #[.int .i64 0, .string (⟨#[]⟩ : ByteArray)] 59 ?_; intro gb247 hg w64 hbox hb; have BK247 := Aside0.mk (hbox); have GW247 := (zq hg : Aside0 (w.heap.size ≤ gb247)); have GE247 := GW247; replace HB := (zB hb); clear hb hbox hg; have p5 : (0 ≤ (a1 : Int)) = True := zT; have q5 : (a1 < (a0.size : Int)) = True := zT; have hx5 := bt_at a0 a1) | ((with_reducible refine zG 54 rfl ?_); refine zg 15 Try.func54 ((marginaliaref03_Blank.calls (bt a0 a1) false _ A6.out).mono ?_); rintro e w' ⟨rfl, ⟨nd, rfl⟩⟩; refine ⟨_, rfl, ?_⟩) | ((with_reducible refine zG 55 rfl ?_); refine zg 36 Try.func55 ((marginaliaref03_remark.calls a0 a1 false _ A22.out).mono ?_); rintro e w' ⟨rfl, ⟨nd, rfl⟩⟩; refine ⟨_, rfl, ?_⟩) | ((with_reducible refine zG 57 rfl ?_); refine zg 46 Try.func57 ((marginaliaref03_Letter.calls (bt a0 a1) false _ A30.out).mono ?_); rintro e w' ⟨rfl, ⟨nd, rfl⟩⟩; refine ⟨_, rfl, ?_⟩) | ((with_reducible refine zG 58 rfl ?_); refine zg 83 Try.func58 ((marginaliaref03_Digit.calls (bt a0 a1) true _ A62.out).mono ?_); rintro e w' ⟨rfl, ⟨nd, rfl⟩⟩; refine ⟨_, rfl, ?_⟩))
     go_loopg [6] k (fun kq v6 w' => ∃ (x6_1 : Int), v6 = .int .i64 x6_1 ∧ Aside0 (marginaliaref03_Next.l2 kq a0 a1 x6_1 = some (r1, r2)) ∧ Aside0 (kq ≤ k) ∧ Aside0 (w'.heap[gb247]? = some (.cells #[.int .i64 0, .string (⟨#[]⟩ : ByteArray)] 59 (0, 0))) ∧ Aside0 (Below w.heap.size w w'))
     case atStart => exact ⟨(wrap64 (a1 + 1)), zs, H', ⟨Nat.le_refl _⟩, (zA BK247), ⟨zb⟩⟩
     case round =>
      clear H'; obtain ⟨x6_1, rfl, HA, HK1, BK247, HB⟩ := hrel
      cases gk with
      | zero => exact absurd HA.out (by simp [marginaliaref03_Next.l2])
      | succ k1 =>
       have H := HA.out; clear HA; simp only [marginaliaref03_Next.l2] at H; by_cases c65 : x6_1 < (a0.size : Int)
       ·rw [if_pos c65] at H; have c65b0 := decide_eq_true c65; clear c65; replace H := zi1 H; obtain ⟨c66b0, H⟩ := H; replace H := zo H; obtain ⟨t260, A68, H⟩ := H; by_cases c69 : t260 = true
        ·subst c69; rw [if_pos rfl] at H; have H' := Aside0.mk H; clear H; have p67 : (0 ≤ (x6_1 : Int)) = True := zT; have q67 : (x6_1 < (a0.size : Int)) = True := zT; have hx67 := bt_at a0 x6_1
         go_wp2_with (first | (go_at_call 58; (with_reducible refine (marginaliaref03_Digit.calls (bt a0 x6_1) true _ A68.out).mono ?_); rintro e w' ⟨rfl, ⟨nd, rfl⟩⟩))
         go_roundg k1
         case measure => have := HK1.out; omega
         case rel => exact ⟨(wrap64 (x6_1 + 1)), zs, H', zk, (zA BK247), ⟨zb⟩⟩
        ·replace c69 := Bool.eq_false_iff.mpr c69; subst c69; replace H := zf H; replace H := zi2 H; obtain ⟨c70b0, c70b1, H⟩ := H; replace H := zi2 H; obtain ⟨c71b0, c71b1, H⟩ := H; replace H := zi2 H; obtain ⟨c72b0, c72b1, H⟩ := H; simp only [Option.some.injEq, Prod.mk.injEq] at H; obtain ⟨rfl, rfl⟩ := H; have p67 : (0 ≤ (x6_1 : Int)) = True := zT; have q67 : (x6_1 < (a0.size : Int)) = True := zT; have hx67 := bt_at a0 x6_1
         go_wp2_with (first | (go_at_call 58; (with_reducible refine (marginaliaref03_Digit.calls (bt a0 x6_1) false _ A68.out).mono ?_); rintro e wr ⟨rfl, hd⟩; replace BK247 := zn hd BK247; replace HB := zm hd HB; clear hd; obtain ⟨hcz73_0, hcz73_1⟩ := zc2 BK247; obtain ⟨hfz73_0, hfz73_1⟩ := zz2 BK247))
         refine bodyPost_ret (results_cell_row rfl _ _ gb247 59 #[.int .i64 5, .string (a0.extract (a1 : Int).toNat (x6_1 : Int).toNat)] (0, 0) _ rfl zw Try.underlying59 rfl (by kernel_rfl)) rfl ?_; exact ⟨zr, zb⟩
       ·rw [if_neg c65] at H; have c65b0 := decide_eq_false c65; clear c65; replace H := zi2 H; obtain ⟨c74b0, c74b1, H⟩ := H; replace H := zi2 H; obtain ⟨c75b0, c75b1, H⟩ := H; replace H := zi2 H; obtain ⟨c76b0, c76b1, H⟩ := H; simp only [Option.some.injEq, Prod.mk.injEq] at H; obtain ⟨rfl, rfl⟩ := H; obtain ⟨hcz77_0, hcz77_1⟩ := zc2 BK247; obtain ⟨hfz77_0, hfz77_1⟩ := zz2 BK247; go_wp2; refine bodyPost_ret (results_cell_row rfl _ _ gb247 59 #[.int .i64 5, .string (a0.extract (a1 : Int).toNat (x6_1 : Int).toNat)] (0, 0) _ rfl zw Try.underlying59 rfl (by kernel_rfl)) rfl ?_; exact ⟨zr, zb⟩
    ·replace c63 := Bool.eq_false_iff.mpr c63; subst c63; replace H := zf H; by_cases c78 : (bt a0 a1) = 34
     ·rw [if_pos c78] at H; have c78b0 : ((bt a0 a1) == 34) = true := beq_iff_eq.mpr c78; have c78b1 : ((bt a0 a1) != 34) = false := bne_eq_false_iff_eq.mpr c78; clear c78; replace H := zo H; obtain ⟨t261, A79, H⟩ := H; by_cases c80 : t261 > 0
      ·rw [if_pos c80] at H; have c80b0 := decide_eq_true c80; clear c80; have c81b0 := eq_true (zt : 0 ≤ a1); replace H := zi2 H; obtain ⟨c82b0, c82b1, H⟩ := H; replace H := zi2 H; obtain ⟨c83b0, c83b1, H⟩ := H; simp only [Option.some.injEq, Prod.mk.injEq] at H; obtain ⟨rfl, rfl⟩ := H; go_enter Try.func40, Try.ntmps40
       go_wp2_with (first | ((with_reducible refine zD 4 rfl ?_); refine zx 4 #[.int .i64 0, .string (⟨#[]⟩ : ByteArray)] 59 ?_; intro gb247 hg w84 hbox hb; have BK247 := Aside0.mk (hbox); have GW247 := (zq hg : Aside0 (w.heap.size ≤ gb247)); have GE247 := GW247; replace HB := (zB hb); clear hb hbox hg; have p5 : (0 ≤ (a1 : Int)) = True := zT; have q5 : (a1 < (a0.size : Int)) = True := zT; have hx5 := bt_at a0 a1) | ((with_reducible refine zG 54 rfl ?_); refine zg 15 Try.func54 ((marginaliaref03_Blank.calls (bt a0 a1) false _ A6.out).mono ?_); rintro e w84 ⟨rfl, hd⟩; refine ⟨_, rfl, ?_⟩; replace BK247 := zn hd BK247; replace HB := zm hd HB; clear hd) | ((with_reducible refine zG 55 rfl ?_); refine zg 36 Try.func55 ((marginaliaref03_remark.calls a0 a1 false _ A22.out).mono ?_); rintro e w84 ⟨rfl, hd⟩; refine ⟨_, rfl, ?_⟩; replace BK247 := zn hd BK247; replace HB := zm hd HB; clear hd) | ((with_reducible refine zG 57 rfl ?_); refine zg 46 Try.func57 ((marginaliaref03_Letter.calls (bt a0 a1) false _ A30.out).mono ?_); rintro e w84 ⟨rfl, hd⟩; refine ⟨_, rfl, ?_⟩; replace BK247 := zn hd BK247; replace HB := zm hd HB; clear hd) | ((with_reducible refine zG 58 rfl ?_); refine zg 83 Try.func58 ((marginaliaref03_Digit.calls (bt a0 a1) false _ A62.out).mono ?_); rintro e w84 ⟨rfl, hd⟩; refine ⟨_, rfl, ?_⟩; replace BK247 := zn hd BK247; replace HB := zm hd HB; clear hd) | ((with_reducible refine zG 61 rfl ?_); refine zg 106 Try.func61 ((marginaliaref03_quoted.calls k a0 a1 t261 _ A79.out).mono ?_); rintro e w84 ⟨rfl, hd⟩; refine ⟨_, rfl, ?_⟩; replace BK247 := zn hd BK247; replace HB := zm hd HB; clear hd; obtain ⟨hcz85_0, hcz85_1⟩ := zc2 BK247; obtain ⟨hfz85_0, hfz85_1⟩ := zz2 BK247))
       refine bodyPost_ret (results_cell_row rfl _ _ gb247 59 #[.int .i64 6, .string (a0.extract (a1 : Int).toNat (t261 : Int).toNat)] (0, 0) _ rfl zw Try.underlying59 rfl (by kernel_rfl)) rfl ?_; exact ⟨zr, zb⟩
      ·rw [if_neg c80] at H; have c80b0 := decide_eq_false c80; clear c80; replace H := zo H; obtain ⟨t262, A86, H⟩ := H; have c87b0 := eq_true (zt : 0 ≤ a1); replace H := zi2 H; obtain ⟨c88b0, c88b1, H⟩ := H; replace H := zi2 H; obtain ⟨c89b0, c89b1, H⟩ := H; simp only [Option.some.injEq, Prod.mk.injEq] at H; obtain ⟨rfl, rfl⟩ := H; go_enter Try.func40, Try.ntmps40
       go_wp2_with (first | ((with_reducible refine zD 4 rfl ?_); refine zx 4 #[.int .i64 0, .string (⟨#[]⟩ : ByteArray)] 59 ?_; intro gb247 hg w90 hbox hb; have BK247 := Aside0.mk (hbox); have GW247 := (zq hg : Aside0 (w.heap.size ≤ gb247)); have GE247 := GW247; replace HB := (zB hb); clear hb hbox hg; have p5 : (0 ≤ (a1 : Int)) = True := zT; have q5 : (a1 < (a0.size : Int)) = True := zT; have hx5 := bt_at a0 a1) | ((with_reducible refine zG 54 rfl ?_); refine zg 15 Try.func54 ((marginaliaref03_Blank.calls (bt a0 a1) false _ A6.out).mono ?_); rintro e w90 ⟨rfl, hd⟩; refine ⟨_, rfl, ?_⟩; replace BK247 := zn hd BK247; replace HB := zm hd HB; clear hd) | ((with_reducible refine zG 55 rfl ?_); refine zg 36 Try.func55 ((marginaliaref03_remark.calls a0 a1 false _ A22.out).mono ?_); rintro e w90 ⟨rfl, hd⟩; refine ⟨_, rfl, ?_⟩; replace BK247 := zn hd BK247; replace HB := zm hd HB; clear hd) | ((with_reducible refine zG 57 rfl ?_); refine zg 46 Try.func57 ((marginaliaref03_Letter.calls (bt a0 a1) false _ A30.out).mono ?_); rintro e w90 ⟨rfl, hd⟩; refine ⟨_, rfl, ?_⟩; replace BK247 := zn hd BK247; replace HB := zm hd HB; clear hd) | ((with_reducible refine zG 58 rfl ?_); refine zg 83 Try.func58 ((marginaliaref03_Digit.calls (bt a0 a1) false _ A62.out).mono ?_); rintro e w90 ⟨rfl, hd⟩; refine ⟨_, rfl, ?_⟩; replace BK247 := zn hd BK247; replace HB := zm hd HB; clear hd) | ((with_reducible refine zG 61 rfl ?_); refine zg 106 Try.func61 ((marginaliaref03_quoted.calls k a0 a1 t261 _ A79.out).mono ?_); rintro e w90 ⟨rfl, hd⟩; refine ⟨_, rfl, ?_⟩; replace BK247 := zn hd BK247; replace HB := zm hd HB; clear hd) | ((with_reducible refine zG 56 rfl ?_); refine zg 118 Try.func56 ((marginaliaref03_line.calls k a0 a1 t262 _ A86.out).mono ?_); rintro e w90 ⟨rfl, hd⟩; refine ⟨_, rfl, ?_⟩; replace BK247 := zn hd BK247; replace HB := zm hd HB; clear hd; obtain ⟨hcz91_0, hcz91_1⟩ := zc2 BK247; obtain ⟨hfz91_0, hfz91_1⟩ := zz2 BK247))
       refine bodyPost_ret (results_cell_row rfl _ _ gb247 59 #[.int .i64 8, .string (a0.extract (a1 : Int).toNat (t262 : Int).toNat)] (0, 0) _ rfl zw Try.underlying59 rfl (by kernel_rfl)) rfl ?_; exact ⟨zr, zb⟩
     ·rw [if_neg c78] at H; have c78b0 : ((bt a0 a1) == 34) = false := beq_eq_false_iff_ne.mpr c78; have c78b1 : ((bt a0 a1) != 34) = true := bne_iff_ne.mpr c78; replace H := zo H; obtain ⟨t263, A92, H⟩ := H; by_cases c93 : t263 > 0
      ·rw [if_pos c93] at H; have c93b0 := decide_eq_true c93; clear c93; have c94b0 := eq_true (zt : 0 ≤ a1); replace H := zi H; obtain ⟨c95, H⟩ := H; have c95b0 := eq_true c95; have c95b1 : decide (a1 ≤ (wrap64 (a1 + t263))) = true := decide_eq_true c95; replace H := zi H; obtain ⟨c96, H⟩ := H; have c96b0 := eq_true c96; have c96b1 : decide ((wrap64 (a1 + t263)) ≤ (a0.size : Int)) = true := decide_eq_true c96; simp only [Option.some.injEq, Prod.mk.injEq] at H; obtain ⟨rfl, rfl⟩ := H; go_enter Try.func40, Try.ntmps40
       go_wp2_with (first | ((with_reducible refine zD 4 rfl ?_); refine zx 4 #[.int .i64 0, .string (⟨#[]⟩ : ByteArray)] 59 ?_; intro gb247 hg w97 hbox hb; have BK247 := Aside0.mk (hbox); have GW247 := (zq hg : Aside0 (w.heap.size ≤ gb247)); have GE247 := GW247; replace HB := (zB hb); clear hb hbox hg; have p5 : (0 ≤ (a1 : Int)) = True := zT; have q5 : (a1 < (a0.size : Int)) = True := zT; have hx5 := bt_at a0 a1) | ((with_reducible refine zG 54 rfl ?_); refine zg 15 Try.func54 ((marginaliaref03_Blank.calls (bt a0 a1) false _ A6.out).mono ?_); rintro e w97 ⟨rfl, hd⟩; refine ⟨_, rfl, ?_⟩; replace BK247 := zn hd BK247; replace HB := zm hd HB; clear hd) | ((with_reducible refine zG 55 rfl ?_); refine zg 36 Try.func55 ((marginaliaref03_remark.calls a0 a1 false _ A22.out).mono ?_); rintro e w97 ⟨rfl, hd⟩; refine ⟨_, rfl, ?_⟩; replace BK247 := zn hd BK247; replace HB := zm hd HB; clear hd) | ((with_reducible refine zG 57 rfl ?_); refine zg 46 Try.func57 ((marginaliaref03_Letter.calls (bt a0 a1) false _ A30.out).mono ?_); rintro e w97 ⟨rfl, hd⟩; refine ⟨_, rfl, ?_⟩; replace BK247 := zn hd BK247; replace HB := zm hd HB; clear hd) | ((with_reducible refine zG 58 rfl ?_); refine zg 83 Try.func58 ((marginaliaref03_Digit.calls (bt a0 a1) false _ A62.out).mono ?_); rintro e w97 ⟨rfl, hd⟩; refine ⟨_, rfl, ?_⟩; replace BK247 := zn hd BK247; replace HB := zm hd HB; clear hd) | ((with_reducible refine zG 62 rfl ?_); refine zg 123 Try.func62 ((marginaliaref03_sign.calls k a0 a1 t263 _ A92.out).mono ?_); rintro e w98 ⟨rfl, hb⟩; refine ⟨_, rfl, ?_⟩; replace BK247 := (zK BK247 hb); replace HB := (zB hb); (try clear hb); (try clear hb2); (try clear hk); (try clear hi); obtain ⟨hcz99_0, hcz99_1⟩ := zc2 BK247; obtain ⟨hfz99_0, hfz99_1⟩ := zz2 BK247))
       refine bodyPost_ret (results_cell_row rfl _ _ gb247 59 #[.int .i64 7, .string (a0.extract (a1 : Int).toNat ((wrap64 (a1 + t263)) : Int).toNat)] (0, 0) _ rfl zw Try.underlying59 rfl (by kernel_rfl)) rfl ?_; exact ⟨zr, zb⟩
      ·rw [if_neg c93] at H; have c93b0 := decide_eq_false c93; clear c93; have H' := Aside0.mk H; clear H; go_enter Try.func40, Try.ntmps40
       go_wp2_with (first | ((with_reducible refine zD 4 rfl ?_); refine zx 4 #[.int .i64 0, .string (⟨#[]⟩ : ByteArray)] 59 ?_; intro gb247 hg w100 hbox hb; have BK247 := Aside0.mk (hbox); have GW247 := (zq hg : Aside0 (w.heap.size ≤ gb247)); have GE247 := GW247; replace HB := (zB hb); clear hb hbox hg; have p5 : (0 ≤ (a1 : Int)) = True := zT; have q5 : (a1 < (a0.size : Int)) = True := zT; have hx5 := bt_at a0 a1) | ((with_reducible refine zG 54 rfl ?_); refine zg 15 Try.func54 ((marginaliaref03_Blank.calls (bt a0 a1) false _ A6.out).mono ?_); rintro e w' ⟨rfl, ⟨nd, rfl⟩⟩; refine ⟨_, rfl, ?_⟩) | ((with_reducible refine zG 55 rfl ?_); refine zg 36 Try.func55 ((marginaliaref03_remark.calls a0 a1 false _ A22.out).mono ?_); rintro e w' ⟨rfl, ⟨nd, rfl⟩⟩; refine ⟨_, rfl, ?_⟩) | ((with_reducible refine zG 57 rfl ?_); refine zg 46 Try.func57 ((marginaliaref03_Letter.calls (bt a0 a1) false _ A30.out).mono ?_); rintro e w' ⟨rfl, ⟨nd, rfl⟩⟩; refine ⟨_, rfl, ?_⟩) | ((with_reducible refine zG 58 rfl ?_); refine zg 83 Try.func58 ((marginaliaref03_Digit.calls (bt a0 a1) false _ A62.out).mono ?_); rintro e w' ⟨rfl, ⟨nd, rfl⟩⟩; refine ⟨_, rfl, ?_⟩) | ((with_reducible refine zG 62 rfl ?_); refine zg 123 Try.func62 ((marginaliaref03_sign.calls k a0 a1 t263 _ A92.out).mono ?_); rintro e w101 ⟨rfl, hb⟩; refine ⟨_, rfl, ?_⟩; replace BK247 := (zK BK247 hb); replace HB := (zB hb); (try clear hb); (try clear hb2); (try clear hk); (try clear hi)))
       go_loopg [6] k (fun kq v6 w' => ∃ (x6_1 : Int), v6 = .int .i64 x6_1 ∧ Aside0 (marginaliaref03_Next.l3 kq a0 a1 x6_1 = some (r1, r2)) ∧ Aside0 (kq ≤ k) ∧ Aside0 (w'.heap[gb247]? = some (.cells #[.int .i64 0, .string (⟨#[]⟩ : ByteArray)] 59 (0, 0))) ∧ Aside0 (Below w.heap.size w w'))
       case atStart => exact ⟨(wrap64 (a1 + 1)), zs, H', ⟨Nat.le_refl _⟩, (zA BK247), ⟨zb⟩⟩
       case round =>
        clear H'; obtain ⟨x6_1, rfl, HA, HK1, BK247, HB⟩ := hrel
        cases gk with
        | zero => exact absurd HA.out (by simp [marginaliaref03_Next.l3])
        | succ k1 =>
         have H := HA.out; clear HA; simp only [marginaliaref03_Next.l3] at H; by_cases c102 : x6_1 < (a0.size : Int)
         ·rw [if_pos c102] at H; have c102b0 := decide_eq_true c102; clear c102; replace H := zo H; obtain ⟨t264, A103, H⟩ := H; by_cases c104 : t264 = true
          ·subst c104; rw [if_pos rfl] at H; replace H := zi2 H; obtain ⟨c105b0, c105b1, H⟩ := H; replace H := zi2 H; obtain ⟨c106b0, c106b1, H⟩ := H; replace H := zi2 H; obtain ⟨c107b0, c107b1, H⟩ := H; simp only [Option.some.injEq, Prod.mk.injEq] at H; obtain ⟨rfl, rfl⟩ := H
           go_wp2_with (first | (go_at_call 63; (with_reducible refine (marginaliaref03_begins.calls k1 a0 x6_1 true _ A103.out).mono ?_); rintro e w108 ⟨rfl, hb⟩; replace BK247 := (zK BK247 hb); replace HB := (zB hb); (try clear hb); (try clear hb2); (try clear hk); (try clear hi); obtain ⟨hcz109_0, hcz109_1⟩ := zc2 BK247; obtain ⟨hfz109_0, hfz109_1⟩ := zz2 BK247))
           refine bodyPost_ret (results_cell_row rfl _ _ gb247 59 #[.int .i64 8, .string (a0.extract (a1 : Int).toNat (x6_1 : Int).toNat)] (0, 0) _ rfl zw Try.underlying59 rfl (by kernel_rfl)) rfl ?_; exact ⟨zr, zb⟩
          ·replace c104 := Bool.eq_false_iff.mpr c104; subst c104; replace H := zf H; have H' := Aside0.mk H; clear H
           go_wp2_with (first | (go_at_call 63; (with_reducible refine (marginaliaref03_begins.calls k1 a0 x6_1 false _ A103.out).mono ?_); rintro e w110 ⟨rfl, hb⟩; replace BK247 := (zK BK247 hb); replace HB := (zB hb); (try clear hb); (try clear hb2); (try clear hk); (try clear hi)))
           go_roundg k1
           case measure => have := HK1.out; omega
           case rel => exact ⟨(wrap64 (x6_1 + 1)), zs, H', zk, (zA BK247), ⟨zb⟩⟩
         ·rw [if_neg c102] at H; have c102b0 := decide_eq_false c102; clear c102; replace H := zi2 H; obtain ⟨c111b0, c111b1, H⟩ := H; replace H := zi2 H; obtain ⟨c112b0, c112b1, H⟩ := H; replace H := zi2 H; obtain ⟨c113b0, c113b1, H⟩ := H; simp only [Option.some.injEq, Prod.mk.injEq] at H; obtain ⟨rfl, rfl⟩ := H; obtain ⟨hcz114_0, hcz114_1⟩ := zc2 BK247; obtain ⟨hfz114_0, hfz114_1⟩ := zz2 BK247; go_wp2; refine bodyPost_ret (results_cell_row rfl _ _ gb247 59 #[.int .i64 8, .string (a0.extract (a1 : Int).toNat (x6_1 : Int).toNat)] (0, 0) _ rfl zw Try.underlying59 rfl (by kernel_rfl)) rfl ?_; exact ⟨zr, zb⟩

end Go.Proofs.Ytahcpappailjgaa.P

namespace Go.Proofs.Ytahcpappailjgaa.P
open Go.RowKit Go.Proofs.YtahcpappailjgaaW.PrintWords Go.Proofs.YtahcpappailjgaaW.PrintLast Go.Proofs.YtahcpappailjgaaW.PrintMore
attribute [local go_sem] max2_int min2_int max_two min_two max_three min_three max_four min_four
set_option linter.unusedVariables false
set_option linter.unusedSimpArgs false

attribute [local go_sem high] eqA59
/-! ### marginaliaref03_Lex: function 15 -/
def marginaliaref03_Lex.l0 : Nat → ByteArray → List (S59) → Int → Option ((List (S59)))
 | 0, _, _, _ => none
 | k + 1, x0, x3, x4 => if x4 < (x0.size : Int) then ((marginaliaref03_Next.f k x0 x4).bind fun bt265 => (if x3.length < 5864062014805 then (marginaliaref03_Lex.l0 k x0 (x3 ++ [(⟨bt265.1, bt265.2⟩ : S59)]) (wrap64 (x4 + (bt265.2.size : Int)))) else (none))) else (some x3)
def marginaliaref03_Lex.f (k : Nat) (a0 : ByteArray) : Option ((List (S59))) := marginaliaref03_Lex.l0 k a0 ([] : List (S59)) 0
theorem marginaliaref03_Lex.mono_l : ∀ k, (∀ y0 y1 y2, LeO (marginaliaref03_Lex.l0 k y0 y1 y2) (marginaliaref03_Lex.l0 (k + 1) y0 y1 y2))
 | 0 => fun _ _ _ r h => by simp [marginaliaref03_Lex.l0] at h
 | k + 1 => by
  have ih0 := marginaliaref03_Lex.mono_l k
  (intro y0 y1 y2; unfold marginaliaref03_Lex.l0); rotate_left
  all_goals repeat' first | (with_reducible exact ih0 _ _ _) | (with_reducible exact marginaliaref03_Next.mono _ _ _) | (with_reducible exact LeO.refl _) | (with_reducible exact LeO.none _) | (with_reducible refine LeO.ite ?_ ?_) | (with_reducible refine LeO.bind ?_ (fun _ => ?_)) | exact ih0 _ _ _ | exact marginaliaref03_Next.mono _ _ _ | exact LeO.none _ | refine LeO.ite ?_ ?_ | refine LeO.bind ?_ (fun _ => ?_)
theorem marginaliaref03_Lex.mono : ∀ a0 k, LeO (marginaliaref03_Lex.f k a0) (marginaliaref03_Lex.f (k + 1) a0) := by
 intro a0 k; have ih0 := marginaliaref03_Lex.mono_l k; unfold marginaliaref03_Lex.f
 repeat' first
   | (with_reducible exact ih0 _ _ _)
   | (with_reducible exact marginaliaref03_Next.mono _ _ _)
   | (with_reducible exact LeO.refl _)
   | (with_reducible exact LeO.none _)
   | (with_reducible refine LeO.ite ?_ ?_)
   | (with_reducible refine LeO.bind ?_ (fun _ => ?_))
   | exact ih0 _ _ _
   | exact marginaliaref03_Next.mono _ _ _
   | exact LeO.none _
   | refine LeO.ite ?_ ?_
   | refine LeO.bind ?_ (fun _ => ?_)
set_option maxHeartbeats 8000000 in
set_option maxRecDepth 100000 in
theorem marginaliaref03_Lex.calls (k : Nat) (a0 : ByteArray) (r : List (S59)) (w : World) (h : marginaliaref03_Lex.f k a0 = some r) :
  Calls Try.prog 15 #[.string a0] w fun e w' => ∃ v0_ : Value, e = .returned (v0_) ∧ Kd.R k59 59 w' w.heap.size (fun _ => True) v0_ r ∧ Below w.heap.size w w' := by
 have hu59 := Try.underlying59; have HB := Aside0.mk (Below.refl w.heap.size w); have H : (marginaliaref03_Lex.l0 k a0 ([] : List (S59)) 0) = some r := h; clear h; have H' := Aside0.mk H; clear H; go_enter Try.func15, Try.ntmps15; go_wp2
 go_loopg [3, 4] k (fun kq v3 v4 w' => ∃ (x3_1 : List (S59)) (x4_1 : Int), v4 = .int .i64 x4_1 ∧ Aside0 (marginaliaref03_Lex.l0 kq a0 x3_1 x4_1 = some r) ∧ Aside0 (kq ≤ k) ∧ Aside0 (Kd.R k59 59 w' w.heap.size (fun _ => True) v3 x3_1) ∧ Aside0 (Below w.heap.size w w'))
 case atStart => exact ⟨(([] : List (S59))), (0), zs, H', ⟨Nat.le_refl _⟩, ⟨by first | exact Kd.R_nil _ _ _ _ _ | exact Kd.N_nil _ _ _ _ _ | exact Kd.V_nil _ _ _ _ _ | exact Kd.Q_nil _ _ _ _ _ | exact Kd.S_nil _ _ _ _ _⟩, ⟨zb⟩⟩
 case round =>
  clear H'; obtain ⟨x3_1, x4_1, rfl, HA, HK1, HO_3, HB⟩ := hrel
  cases gk with
  | zero => exact absurd HA.out (by simp [marginaliaref03_Lex.l0])
  | succ k1 =>
   have H := HA.out; clear HA; simp only [marginaliaref03_Lex.l0] at H; by_cases c2 : x4_1 < (a0.size : Int)
   ·rw [if_pos c2] at H; have c2b0 := decide_eq_true c2; clear c2; replace H := Option.bind_eq_some_iff.mp H; obtain ⟨⟨t265, t266⟩, A30, H⟩ := H; replace H : (if x3_1.length < 5864062014805 then (marginaliaref03_Lex.l0 k1 a0 (x3_1 ++ [(⟨t265, t266⟩ : S59)]) (wrap64 (x4_1 + (t266.size : Int)))) else (none)) = some r := H; have A3 := Aside0.mk A30; clear A30; replace H := zi H; obtain ⟨c4, H⟩ := H; have LMc4 := Aside0.mk c4; clear c4
    obtain ⟨y268, hy268⟩ : ∃ y_ : List (S59), y_ = (x3_1 ++ [(⟨t265, t266⟩ : S59)]) := ⟨_, rfl⟩
    replace H : (marginaliaref03_Lex.l0 k1 a0 y268 (wrap64 (x4_1 + (t266.size : Int)))) = some r := by first | (rw [hy268]; with_reducible exact H) | (have H2_ := (Option.bind_some _ _).symm.trans H; rw [hy268]; with_reducible exact H2_) | (have H2_ := (Option.bind_some _ _).symm.trans H; with_reducible exact H2_) | with_reducible exact H | (rw [hy268]; exact H) | exact H
    have Ny268 := Aside0.mk hy268; clear hy268; have H' := Aside0.mk H; clear H
    go_wp2_with (first | ((with_reducible refine zG 40 rfl ?_); refine zg 12 Try.func40 ((marginaliaref03_Next.calls k1 a0 x4_1 t265 t266 _ A3.out).mono ?_); rintro e w5 ⟨rfl, hb⟩; refine ⟨_, rfl, ?_⟩; replace HO_3 := (zRb HO_3 hb); replace HB := (zB hb); (try clear hb); (try clear hb2); (try clear hk); (try clear hi)) | ((with_reducible refine zD 5 rfl ?_); refine zx 5 #[.int .i64 0, .string (⟨#[]⟩ : ByteArray)] 59 ?_; intro gb267 hg w6 hbox hb; replace HO_3 := Aside0.mk (Kd.R_below (Kd.R_elderB (zR HO_3) gb267 (Nat.le_of_eq hg.symm)) hb); have BK267 := Aside0.mk (hbox); have GW267 := (zq hg : Aside0 (w.heap.size ≤ gb267)); have GE267 := GW267; replace HB := (zB hb); clear hb hbox hg; obtain ⟨hcz7_0, hcz7_1⟩ := zc2 BK267; obtain ⟨hfz7_0, hfz7_1⟩ := zz2 BK267) | ((with_reducible refine gate_builtin (b := .append) (xs := #[.tmp 13, .tmp 15]) rfl ?_); at_builtin; refine Kd.R_append k59 (w0 := w) w.heap.size rfl (.tmp 13) (.tmp 15) 22 59 (.agg #[(.int .i64 0), (.string ⟨#[]⟩)]) 24 rfl Try.underlying22 info59 rfl (by decide) (by omega) u3 x3_1 (⟨t265, t266⟩ : S59) [.int .i64 t265, .string t266] (fun k_ => k_ ≠ gb267) (fun _ => False) rfl (by first | (go_simp; done) | (go_simp; rfl)) ?aP (fun _ hk => hk.elim) ?aF ?aO ?aB ?aS ?aL ?_; (case aP => exact k59_mkM _ _ _ (⟨t265, t266⟩ : S59)); (case aB => exact zb); (case aF => exact (fun k_ hk => Kd.freshB (g := gb267) (o := .cells #[.int .i64 t265, .string t266] 59 (0, 0)) zw k_ hk)); (case aO => exact (by (with_reducible repeat (first | apply Kd.R_alloc | apply Kd.R_drewN | apply Kd.R_drew)); exact Kd.R_mono (Kd.R_far (p := ⟨gb267, 1, none⟩) (Kd.R_far (p := ⟨gb267, 0, none⟩) (Kd.R_mono HO_3.out (fun k_ hk => (⟨hk, hk.2⟩ : _ ∧ k_ ≠ gb267))) (fun _ hk => hk.2) (.int .i64 t265)) (fun _ hk => hk.2) (.string t266)) (fun _ hk => hk.1.2))); (case aS => exact (below_size zb)); (case aL => have := LMc4.out; omega); intro v269 w8 ho hb hg hat; rw [← Ny268.out] at ho; replace BK267 := Aside0.mk (blk_grown (g := gb267) (o := .cells #[.int .i64 t265, .string t266] 59 (0, 0)) zw hg (Kd.R_away HO_3.out (fun _ hk => hk.2))); replace HB := Aside0.mk (hb); have HO270 := Aside0.mk (ho); clear HO_3 ho hb hg hat; obtain ⟨hcz9_0, hcz9_1⟩ := zc2 BK267; obtain ⟨hfz9_0, hfz9_1⟩ := zz2 BK267))
    go_roundg k1
    case measure => have := HK1.out; omega
    case rel => exact ⟨(y268), (wrap64 (x4_1 + (t266.size : Int))), zs, H', zk, ⟨by (with_reducible repeat (first | apply Kd.R_alloc | apply Kd.R_drewN | apply Kd.R_drew)); exact Kd.R_mono HO270.out (fun _ hk => trivial)⟩, ⟨zb⟩⟩
   ·rw [if_neg c2] at H; have c2b0 := decide_eq_false c2; clear c2; obtain rfl := Option.some.inj H; go_wp2; go_ret; exact ⟨_, zr, by (with_reducible repeat (first | apply Kd.R_alloc | apply Kd.R_drewN | apply Kd.R_drew)); exact HO_3.out, zb⟩

/-! ### marginaliaref03_Same: function 18 -/
def marginaliaref03_Same.l0 : Nat → List (S59) → List (S59) → Int → Option (Bool)
 | 0, _, _, _ => none
 | k + 1, x0, x1, x5 => if x5 < (x0.length : Int) then (if 0 ≤ x5 then (if x5 < (x1.length : Int) then (if (!(((rd_T59 x0 x5).f0) == ((rd_T59 x1 x5).f0)) || (!((((rd_T59 x0 x5).f1).toList) == (((rd_T59 x1 x5).f1).toList)))) = true then (some false) else (marginaliaref03_Same.l0 k x0 x1 (wrap64 (x5 + 1)))) else (none)) else (none)) else (some true)
def marginaliaref03_Same.f (k : Nat) (l0 : List (S59)) (l1 : List (S59)) : Option (Bool) := if (l0.length : Int) = (l1.length : Int) then (marginaliaref03_Same.l0 k l0 l1 0) else (some false)
theorem marginaliaref03_Same.mono_l : ∀ k, (∀ y0 y1 y2, LeO (marginaliaref03_Same.l0 k y0 y1 y2) (marginaliaref03_Same.l0 (k + 1) y0 y1 y2))
 | 0 => fun _ _ _ r h => by simp [marginaliaref03_Same.l0] at h
 | k + 1 => by
  have ih0 := marginaliaref03_Same.mono_l k
  (intro y0 y1 y2; unfold marginaliaref03_Same.l0); rotate_left
  all_goals repeat' first | (with_reducible exact ih0 _ _ _) | (with_reducible exact LeO.refl _) | (with_reducible exact LeO.none _) | (with_reducible refine LeO.ite ?_ ?_) | (with_reducible refine LeO.bind ?_ (fun _ => ?_)) | exact ih0 _ _ _ | exact LeO.none _ | refine LeO.ite ?_ ?_ | refine LeO.bind ?_ (fun _ => ?_)
theorem marginaliaref03_Same.mono : ∀ a0 a1 k, LeO (marginaliaref03_Same.f k a0 a1) (marginaliaref03_Same.f (k + 1) a0 a1) := by
 intro a0 a1 k; have ih0 := marginaliaref03_Same.mono_l k; unfold marginaliaref03_Same.f
 repeat' first
   | (with_reducible exact ih0 _ _ _)
   | (with_reducible exact LeO.refl _)
   | (with_reducible exact LeO.none _)
   | (with_reducible refine LeO.ite ?_ ?_)
   | (with_reducible refine LeO.bind ?_ (fun _ => ?_))
   | exact ih0 _ _ _
   | exact LeO.none _
   | refine LeO.ite ?_ ?_
   | refine LeO.bind ?_ (fun _ => ?_)
set_option maxHeartbeats 8000000 in
set_option maxRecDepth 100000 in
theorem marginaliaref03_Same.calls (k : Nat) (A0 : Option Addr) (c0 : Nat) (l0 : List (S59)) (A1 : Option Addr) (c1 : Nat) (l1 : List (S59)) (r : Bool) (w : World) (hr0 : Kd.C k59 w A0 l0.length l0) (hc0 : l0.length ≤ c0) (hr1 : Kd.C k59 w A1 l1.length l1) (hc1 : l1.length ≤ c1) (h : marginaliaref03_Same.f k l0 l1 = some r) :
  Calls Try.prog 18 #[.slice A0 l0.length c0, .slice A1 l1.length c1] w fun e w' => e = .returned (.bool r) ∧ Drawn0 w w' := by
 have hu59 := Try.underlying59; have HR0 := Aside0.mk hr0; have HC0 := Aside0.mk hc0; clear hr0 hc0; have HR1 := Aside0.mk hr1; have HC1 := Aside0.mk hc1; clear hr1 hc1; have H : (if (l0.length : Int) = (l1.length : Int) then (marginaliaref03_Same.l0 k l0 l1 0) else (some false)) = some r := h; clear h; by_cases c3 : (l0.length : Int) = (l1.length : Int)
 ·rw [if_pos c3] at H; have c3b0 : ((l0.length : Int) == (l1.length : Int)) = true := beq_iff_eq.mpr c3; have c3b1 : ((l0.length : Int) != (l1.length : Int)) = false := bne_eq_false_iff_eq.mpr c3
  have c3b2 : (l0.length == l1.length) = true := (by first | simpa using c3 | (simp at c3 ⊢; omega))
  clear c3; have H' := Aside0.mk H; clear H; go_enter Try.func18, Try.ntmps18; go_wp2
  repeat (go_quiet (fail); try go_wp2)
  go_loopg [5] k (fun kq v5 w' => ∃ (x5_1 : Int), v5 = .int .i64 x5_1 ∧ Aside0 (marginaliaref03_Same.l0 kq l0 l1 x5_1 = some r) ∧ Aside0 (kq ≤ k) ∧ Drawn0 w w')
  case atStart => exact ⟨(0), zs, H', ⟨Nat.le_refl _⟩, zX⟩
  case round =>
   clear H'; obtain ⟨x5_1, rfl, HA, HK1, ⟨m1, rfl⟩⟩ := hrel
   cases gk with
   | zero => exact absurd HA.out (by simp [marginaliaref03_Same.l0])
   | succ k1 =>
    have H := HA.out; clear HA; simp only [marginaliaref03_Same.l0] at H; by_cases c4 : x5_1 < (l0.length : Int)
    ·rw [if_pos c4] at H; have c4b0 := decide_eq_true c4; clear c4; replace H := zi1 H; obtain ⟨c5b0, H⟩ := H; replace H := zi1 H; obtain ⟨c6b0, H⟩ := H; by_cases c7 : (!(((rd_T59 l0 x5_1).f0) == ((rd_T59 l1 x5_1).f0)) || (!((((rd_T59 l0 x5_1).f1).toList) == (((rd_T59 l1 x5_1).f1).toList)))) = true
     ·rw [if_pos c7] at H; have c7b0 : (!(((rd_T59 l0 x5_1).f0) == ((rd_T59 l1 x5_1).f0)) || (!((((rd_T59 l0 x5_1).f1).toList) == (((rd_T59 l1 x5_1).f1).toList)))) = true := c7; clear c7; obtain rfl := Option.some.inj H; have p271 : 0 ≤ (x5_1 : Int) := zt; have q271 : x5_1 < (l0.length : Int) := zt; obtain ⟨ad271, e271, hx271_0, hx271_1⟩ := at_T59 HR0.out x5_1 p271 q271
      cases e271
      replace p271 := eq_true p271; replace q271 := eq_true q271; have p272 : 0 ≤ (x5_1 : Int) := zt; have q272 : x5_1 < (l1.length : Int) := zt; obtain ⟨ad272, e272, hx272_0, hx272_1⟩ := at_T59 HR1.out x5_1 p272 q272
      cases e272
      replace p272 := eq_true p272; replace q272 := eq_true q272; go_wp2
      repeat (go_quiet (fail); try go_wp2)
      go_ret; exact ⟨zs, zX⟩
     ·rw [if_neg c7] at H
      have c7b0 : (!(((rd_T59 l0 x5_1).f0) == ((rd_T59 l1 x5_1).f0)) || (!((((rd_T59 l0 x5_1).f1).toList) == (((rd_T59 l1 x5_1).f1).toList)))) = false := (by simpa using c7)
      clear c7; have H' := Aside0.mk H; clear H; have p271 : 0 ≤ (x5_1 : Int) := zt; have q271 : x5_1 < (l0.length : Int) := zt; obtain ⟨ad271, e271, hx271_0, hx271_1⟩ := at_T59 HR0.out x5_1 p271 q271
      cases e271
      replace p271 := eq_true p271; replace q271 := eq_true q271; have p272 : 0 ≤ (x5_1 : Int) := zt; have q272 : x5_1 < (l1.length : Int) := zt; obtain ⟨ad272, e272, hx272_0, hx272_1⟩ := at_T59 HR1.out x5_1 p272 q272
      cases e272
      replace p272 := eq_true p272; replace q272 := eq_true q272; go_wp2
      repeat (go_quiet (fail); try go_wp2)
      go_roundg k1
      case measure => have := HK1.out; omega
      case rel => exact ⟨(wrap64 (x5_1 + 1)), zs, H', zk, zX⟩
    ·rw [if_neg c4] at H; have c4b0 := decide_eq_false c4; clear c4; obtain rfl := Option.some.inj H; go_wp2
     repeat (go_quiet (fail); try go_wp2)
     go_ret; exact ⟨zs, zX⟩
 ·rw [if_neg c3] at H; have c3b0 : ((l0.length : Int) == (l1.length : Int)) = false := beq_eq_false_iff_ne.mpr c3; have c3b1 : ((l0.length : Int) != (l1.length : Int)) = true := bne_iff_ne.mpr c3
  have c3b2 : (l0.length == l1.length) = false := (by first | simpa using c3 | (simp at c3 ⊢; omega))
  obtain rfl := Option.some.inj H; go_enter Try.func18, Try.ntmps18; go_wp2
  repeat (go_quiet (fail); try go_wp2)
  go_ret; exact ⟨zs, zX⟩

end Go.Proofs.Ytahcpappailjgaa.P

namespace Go.Proofs.Ytahcpappailjgaa.P
open Go.RowKit Go.Proofs.YtahcpappailjgaaW.PrintWords Go.Proofs.YtahcpappailjgaaW.PrintLast Go.Proofs.YtahcpappailjgaaW.PrintMore
attribute [local go_sem] max2_int min2_int max_two min_two max_three min_three max_four min_four
set_option linter.unusedVariables false
set_option linter.unusedSimpArgs false

/-! ### relex_Line: function 23 -/
def relex_Line.l0 : Nat → ByteArray → Int → Int → List (S39) → Int → Int → Option (Int × Int)
 | 0, _, _, _, _, _, _ => none
 | k + 1, x8, x11, x12, x41, x42, x43 => if x43 < x42 then (if 0 ≤ x43 then (if x43 < (x41.length : Int) then (if 0 ≤ ((rd_T39 x41 x43).f0) then (if ((rd_T39 x41 x43).f0) ≤ (x8.size : Int) then ((strings_LastIndexByte.f (x8.extract 0 (((rd_T39 x41 x43).f0) : Int).toNat) 10).bind fun t304 => (if 0 ≤ ((rd_T39 x41 x43).f1) then (if ((rd_T39 x41 x43).f1) ≤ (x8.size : Int) then ((strings_IndexByte.f (x8.extract (((rd_T39 x41 x43).f1) : Int).toNat x8.size) 10).bind fun t305 => (if t305 ≥ 0 then (relex_Line.l0 k x8 (wrap64 (x11 + (mx (wrap64 ((wrap64 ((wrap64 (((rd_T39 x41 x43).f1) + t305)) + 1)) - (mx (wrap64 (t304 + 1)) x12))) 0))) (mx x12 (wrap64 ((wrap64 (((rd_T39 x41 x43).f1) + t305)) + 1))) x41 x42 (wrap64 (x43 + 1))) else (relex_Line.l0 k x8 (wrap64 (x11 + (mx (wrap64 ((x8.size : Int) - (mx (wrap64 (t304 + 1)) x12))) 0))) (mx x12 (x8.size : Int)) x41 x42 (wrap64 (x43 + 1))))) else (none)) else (none))) else (none)) else (none)) else (none)) else (none)) else (some (x11, 0))
def relex_Line.f (k : Nat) (l0 : List (S59)) (l1 : List (S39)) : Option (Int × Int) := (token_Text.f k l0).bind fun bt294 => (if bt294.2 = 0 then ((rope_Apply.f k bt294.1 l1).bind fun bt296 => (if bt296.2 = 0 then ((rope_Invert.f k bt294.1 l1).bind fun bt298 => (relex_Line.l0 k bt296.1 0 0 bt298.1 (bt298.1.length : Int) 0)) else (some (0, bt296.2)))) else (some (0, bt294.2)))
theorem relex_Line.mono_l : ∀ k, (∀ y0 y1 y2 y3 y4 y5, LeO (relex_Line.l0 k y0 y1 y2 y3 y4 y5) (relex_Line.l0 (k + 1) y0 y1 y2 y3 y4 y5))
 | 0 => fun _ _ _ _ _ _ r h => by simp [relex_Line.l0] at h
 | k + 1 => by
  have ih0 := relex_Line.mono_l k
  (intro y0 y1 y2 y3 y4 y5; unfold relex_Line.l0); rotate_left
  all_goals repeat' first | (with_reducible exact ih0 _ _ _ _ _ _) | (with_reducible exact rope_Apply.mono _ _ _) | (with_reducible exact rope_Invert.mono _ _ _) | (with_reducible exact token_Text.mono _ _) | (with_reducible exact LeO.refl _) | (with_reducible exact LeO.none _) | (with_reducible refine LeO.ite ?_ ?_) | (with_reducible refine LeO.bind ?_ (fun _ => ?_)) | exact ih0 _ _ _ _ _ _ | exact rope_Apply.mono _ _ _ | exact rope_Invert.mono _ _ _ | exact token_Text.mono _ _ | exact LeO.none _ | refine LeO.ite ?_ ?_ | refine LeO.bind ?_ (fun _ => ?_)
theorem relex_Line.mono : ∀ a0 a1 k, LeO (relex_Line.f k a0 a1) (relex_Line.f (k + 1) a0 a1) := by
 intro a0 a1 k; have ih0 := relex_Line.mono_l k; unfold relex_Line.f
 repeat' first
   | (with_reducible exact ih0 _ _ _ _ _ _)
   | (with_reducible exact rope_Apply.mono _ _ _)
   | (with_reducible exact rope_Invert.mono _ _ _)
   | (with_reducible exact token_Text.mono _ _)
   | (with_reducible exact LeO.refl _)
   | (with_reducible exact LeO.none _)
   | (with_reducible refine LeO.ite ?_ ?_)
   | (with_reducible refine LeO.bind ?_ (fun _ => ?_))
   | exact ih0 _ _ _ _ _ _
   | exact rope_Apply.mono _ _ _
   | exact rope_Invert.mono _ _ _
   | exact token_Text.mono _ _
   | exact LeO.none _
   | refine LeO.ite ?_ ?_
   | refine LeO.bind ?_ (fun _ => ?_)
set_option maxHeartbeats 8000000 in
set_option maxRecDepth 100000 in
theorem relex_Line.calls (k : Nat) (A0 : Option Addr) (c0 : Nat) (l0 : List (S59)) (A1 : Option Addr) (c1 : Nat) (l1 : List (S39)) (r1 : Int) (r2 : Int) (w : World) (hr0 : Kd.C k59 w A0 l0.length l0) (hc0 : l0.length ≤ c0) (hr1 : Kd.C k39 w A1 l1.length l1) (hc1 : l1.length ≤ c1) (h : relex_Line.f k l0 l1 = some (r1, r2)) :
  Calls Try.prog 23 #[.slice A0 l0.length c0, .slice A1 l1.length c1] w fun e w' => e = .returned (.tuple #[.int .i64 r1, .int .i64 r2]) ∧ Below w.heap.size w w' := by
 have hu39 := Try.underlying39; have HR0 := Aside0.mk hr0; have HC0 := Aside0.mk hc0; clear hr0 hc0; have HR1 := Aside0.mk hr1; have HC1 := Aside0.mk hc1; clear hr1 hc1; have HB := Aside0.mk (Below.refl w.heap.size w); have H : ((token_Text.f k l0).bind fun bt294 => (if bt294.2 = 0 then ((rope_Apply.f k bt294.1 l1).bind fun bt296 => (if bt296.2 = 0 then ((rope_Invert.f k bt294.1 l1).bind fun bt298 => (relex_Line.l0 k bt296.1 0 0 bt298.1 (bt298.1.length : Int) 0)) else (some (0, bt296.2)))) else (some (0, bt294.2)))) = some (r1, r2) := h; clear h; replace H := Option.bind_eq_some_iff.mp H; obtain ⟨⟨t294, t295⟩, A30, H⟩ := H; replace H : (if t295 = 0 then ((rope_Apply.f k t294 l1).bind fun bt296 => (if bt296.2 = 0 then ((rope_Invert.f k t294 l1).bind fun bt298 => (relex_Line.l0 k bt296.1 0 0 bt298.1 (bt298.1.length : Int) 0)) else (some (0, bt296.2)))) else (some (0, t295))) = some (r1, r2) := H; have A3 := Aside0.mk A30; clear A30; by_cases c4 : t295 = 0
 ·rw [if_pos c4] at H; have c4b0 : (t295 == 0) = true := beq_iff_eq.mpr c4; have c4b1 : (t295 != 0) = false := bne_eq_false_iff_eq.mpr c4; clear c4; replace H := Option.bind_eq_some_iff.mp H; obtain ⟨⟨t296, t297⟩, A50, H⟩ := H; replace H : (if t297 = 0 then ((rope_Invert.f k t294 l1).bind fun bt298 => (relex_Line.l0 k t296 0 0 bt298.1 (bt298.1.length : Int) 0)) else (some (0, t297))) = some (r1, r2) := H; have A5 := Aside0.mk A50; clear A50; by_cases c6 : t297 = 0
  ·rw [if_pos c6] at H; have c6b0 : (t297 == 0) = true := beq_iff_eq.mpr c6; have c6b1 : (t297 != 0) = false := bne_eq_false_iff_eq.mpr c6; clear c6; replace H := Option.bind_eq_some_iff.mp H; obtain ⟨⟨t298, t299⟩, A70, H⟩ := H; replace H : (relex_Line.l0 k t296 0 0 t298 (t298.length : Int) 0) = some (r1, r2) := H; have A7 := Aside0.mk A70; clear A70; have H' := Aside0.mk H; clear H; go_enter Try.func23, Try.ntmps23
   go_wp2_with (first | ((with_reducible refine zG 30 rfl ?_); refine zg 20 Try.func30 ((token_Text.calls k _ _ l0 t294 t295 _ ?side1 ?side2 A3.out).mono ?_); (case side1 => exact zE HR0); (case side2 => exact HC0.out); rintro e w8 ⟨rfl, hb⟩; refine ⟨_, rfl, ?_⟩; replace HB := (zB hb); (try clear hb); (try clear hb2); (try clear hk); (try clear hi)) | ((with_reducible refine zG 27 rfl ?_); refine zg 29 Try.func27 ((rope_Apply.calls k t294 _ _ l1 t296 t297 _ ?side1 ?side2 A5.out).mono ?_); (case side1 => exact zC HR1); (case side2 => exact HC1.out); rintro e w9 ⟨rfl, hb⟩; refine ⟨_, rfl, ?_⟩; replace HB := (zB hb); (try clear hb); (try clear hb2); (try clear hk); (try clear hi)) | ((with_reducible refine zG 28 rfl ?_); refine zg 38 Try.func28 ((rope_Invert.calls k t294 _ _ l1 t298 t299 _ ?side1 ?side2 A7.out).mono ?_); (case side1 => exact zC HR1); (case side2 => exact HC1.out); rintro e w10 ⟨v300, rfl, ho0, hb⟩; refine ⟨_, rfl, ?_⟩; have HO301 := Aside0.mk (Kd.R_lower ho0 (below_size zb)); replace HB := (zB hb); (try clear hb); (try clear hb2); (try clear hk); (try clear hi); (try clear ho0); obtain ⟨Ao11, co11, eo11⟩ := Kd.R_slice HO301.out; subst eo11))
   go_loopg [11, 12, 43] k (fun kq v11 v12 v43 w' => ∃ (x11_1 : Int) (x12_1 : Int) (x43_1 : Int), v11 = .int .i64 x11_1 ∧ v12 = .int .i64 x12_1 ∧ v43 = .int .i64 x43_1 ∧ Aside0 (relex_Line.l0 kq t296 x11_1 x12_1 t298 (t298.length : Int) x43_1 = some (r1, r2)) ∧ Aside0 (kq ≤ k) ∧ Aside0 (Kd.R k39 39 w' w.heap.size (fun _ => True) (.slice Ao11 t298.length co11) t298) ∧ Aside0 (Below w.heap.size w w'))
   case atStart => exact ⟨(0), (0), (0), zs, zs, zs, H', ⟨Nat.le_refl _⟩, ⟨by (with_reducible repeat (first | apply Kd.R_alloc | apply Kd.R_drewN | apply Kd.R_drew)); exact HO301.out⟩, ⟨zb⟩⟩
   case round =>
    clear H'; obtain ⟨x11_1, x12_1, x43_1, rfl, rfl, rfl, HA, HK1, HO_41, HB⟩ := hrel
    cases gk with
    | zero => exact absurd HA.out (by simp [relex_Line.l0])
    | succ k1 =>
     have H := HA.out; clear HA; simp only [relex_Line.l0] at H; by_cases c12 : x43_1 < (t298.length : Int)
     ·rw [if_pos c12] at H; have c12b0 := decide_eq_true c12; clear c12; replace H := zi1 H; obtain ⟨c13b0, H⟩ := H; replace H := zi1 H; obtain ⟨c14b0, H⟩ := H; replace H := zi2 H; obtain ⟨c15b0, c15b1, H⟩ := H; replace H := zi2 H; obtain ⟨c16b0, c16b1, H⟩ := H; replace H := zo H; obtain ⟨t304, A17, H⟩ := H
      obtain ⟨ji18, hji18⟩ : ∃ j_ : Int, (mx (wrap64 (t304 + 1)) x12_1) = j_ := ⟨_, rfl⟩
      replace H : (if 0 ≤ ((rd_T39 t298 x43_1).f1) then (if ((rd_T39 t298 x43_1).f1) ≤ (t296.size : Int) then ((strings_IndexByte.f (t296.extract (((rd_T39 t298 x43_1).f1) : Int).toNat t296.size) 10).bind fun t305 => (if t305 ≥ 0 then (relex_Line.l0 k1 t296 (wrap64 (x11_1 + (mx (wrap64 ((wrap64 ((wrap64 (((rd_T39 t298 x43_1).f1) + t305)) + 1)) - (ji18))) 0))) (mx x12_1 (wrap64 ((wrap64 (((rd_T39 t298 x43_1).f1) + t305)) + 1))) t298 (t298.length : Int) (wrap64 (x43_1 + 1))) else (relex_Line.l0 k1 t296 (wrap64 (x11_1 + (mx (wrap64 ((t296.size : Int) - (ji18))) 0))) (mx x12_1 (t296.size : Int)) t298 (t298.length : Int) (wrap64 (x43_1 + 1))))) else (none)) else (none)) = some (r1, r2) := by first | (rw [hji18] at H; exact H) | (simp only [hji18] at H ⊢; exact H)
      (try rw [hji18] at A17)
      have hji18_ : (if (wrap64 (t304 + 1)) < x12_1 then x12_1 else (wrap64 (t304 + 1))) = ji18 := hji18; replace H := zi2 H; obtain ⟨c19b0, c19b1, H⟩ := H; replace H := zi2 H; obtain ⟨c20b0, c20b1, H⟩ := H; replace H := zo H; obtain ⟨t305, A21, H⟩ := H; by_cases c22 : t305 ≥ 0
      ·rw [if_pos c22] at H; have c22b0 := decide_eq_true c22; clear c22
       obtain ⟨ji23, hji23⟩ : ∃ j_ : Int, (mx (wrap64 ((wrap64 ((wrap64 (((rd_T39 t298 x43_1).f1) + t305)) + 1)) - (ji18))) 0) = j_ := ⟨_, rfl⟩
       replace H : (relex_Line.l0 k1 t296 (wrap64 (x11_1 + (ji23))) (mx x12_1 (wrap64 ((wrap64 (((rd_T39 t298 x43_1).f1) + t305)) + 1))) t298 (t298.length : Int) (wrap64 (x43_1 + 1))) = some (r1, r2) := by first | (rw [hji23] at H; exact H) | (simp only [hji23] at H ⊢; exact H)
       (try rw [hji23] at A17)
       (try rw [hji23] at A21)
       have hji23_ : (if (wrap64 ((wrap64 ((wrap64 (((rd_T39 t298 x43_1).f1) + t305)) + 1)) - (ji18))) < 0 then 0 else (wrap64 ((wrap64 ((wrap64 (((rd_T39 t298 x43_1).f1) + t305)) + 1)) - (ji18)))) = ji23 := hji23
       obtain ⟨ji24, hji24⟩ : ∃ j_ : Int, (mx x12_1 (wrap64 ((wrap64 (((rd_T39 t298 x43_1).f1) + t305)) + 1))) = j_ := ⟨_, rfl⟩
       replace H : (relex_Line.l0 k1 t296 (wrap64 (x11_1 + (ji23))) ji24 t298 (t298.length : Int) (wrap64 (x43_1 + 1))) = some (r1, r2) := by first | (rw [hji24] at H; exact H) | (simp only [hji24] at H ⊢; exact H)
       (try rw [hji24] at A17)
       (try rw [hji24] at A21)
       have hji24_ : (if x12_1 < (wrap64 ((wrap64 (((rd_T39 t298 x43_1).f1) + t305)) + 1)) then (wrap64 ((wrap64 (((rd_T39 t298 x43_1).f1) + t305)) + 1)) else x12_1) = ji24 := hji24; have H' := Aside0.mk H; clear H; have p302 : 0 ≤ (x43_1 : Int) := zt; have q302 : x43_1 < (t298.length : Int) := zt; obtain ⟨ad302, e302, hx302_0, hx302_1, hx302_2⟩ := at_T39 (Kd.R_reads' HO_41.out).2.2 x43_1 p302 q302
       cases e302
       replace p302 := eq_true p302; replace q302 := eq_true q302
       go_wp2_with (first | ((with_reducible refine zD 14 rfl ?_); refine zx 14 #[.int .i64 0, .int .i64 0, .string (⟨#[]⟩ : ByteArray)] 39 ?_; intro gb303 hg w25 hbox hb; replace HO_41 := Aside0.mk (Kd.R_below (Kd.R_elderB (zR HO_41) gb303 (Nat.le_of_eq hg.symm)) hb); have BK303 := Aside0.mk (hbox); have GW303 := (zq hg : Aside0 (w.heap.size ≤ gb303)); have GE303 := GW303; replace HB := (zB hb); clear hb hbox hg; obtain ⟨hcz26_0, hcz26_1, hcz26_2⟩ := zc3 BK303; obtain ⟨hfz26_0, hfz26_1, hfz26_2⟩ := zz3 BK303) | ((with_reducible refine zG 33 rfl ?_); refine zg 51 Try.func33 ((strings_LastIndexByte.calls (t296.extract 0 (((rd_T39 t298 x43_1).f0) : Int).toNat) 10 t304 _ A17.out).mono ?_); rintro e w' ⟨rfl, ⟨nd, rfl⟩⟩; refine ⟨_, rfl, ?_⟩) | ((with_reducible refine zG 35 rfl ?_); refine zg 61 Try.func35 ((strings_IndexByte.calls (t296.extract (((rd_T39 t298 x43_1).f1) : Int).toNat t296.size) 10 t305 _ A21.out).mono ?_); rintro e w' ⟨rfl, ⟨nd, rfl⟩⟩; refine ⟨_, rfl, ?_⟩))
       go_roundg k1
       case measure => have := HK1.out; omega
       case rel => exact ⟨(wrap64 (x11_1 + (ji23))), (ji24), (wrap64 (x43_1 + 1)), (by first | rfl | (simp; done) | (simp only [← hji23] <;> (first | rfl | simp)) | (simp [*]; done)), (by first | rfl | (simp; done) | (simp only [← hji24] <;> (first | rfl | simp)) | (simp [*]; done)), zs, H', zk, ⟨by (with_reducible repeat (first | apply Kd.R_alloc | apply Kd.R_drewN | apply Kd.R_drew)); exact Kd.R_mono (Kd.R_far (p := ⟨gb303, 2, none⟩) (Kd.R_far (p := ⟨gb303, 1, none⟩) (Kd.R_far (p := ⟨gb303, 0, none⟩) (Kd.R_mono HO_41.out (fun k_ hk => (⟨hk, hk.2⟩ : _ ∧ k_ ≠ gb303))) (fun _ hk => hk.2) (.int .i64 ((rd_T39 t298 x43_1).f0))) (fun _ hk => hk.2) (.int .i64 ((rd_T39 t298 x43_1).f1))) (fun _ hk => hk.2) (.string ((rd_T39 t298 x43_1).f2))) (fun _ hk => trivial)⟩, ⟨zb⟩⟩
      ·rw [if_neg c22] at H; have c22b0 := decide_eq_false c22; clear c22
       obtain ⟨ji27, hji27⟩ : ∃ j_ : Int, (mx (wrap64 ((t296.size : Int) - (ji18))) 0) = j_ := ⟨_, rfl⟩
       replace H : (relex_Line.l0 k1 t296 (wrap64 (x11_1 + (ji27))) (mx x12_1 (t296.size : Int)) t298 (t298.length : Int) (wrap64 (x43_1 + 1))) = some (r1, r2) := by first | (rw [hji27] at H; exact H) | (simp only [hji27] at H ⊢; exact H)
       (try rw [hji27] at A17)
       (try rw [hji27] at A21)
       have hji27_ : (if (wrap64 ((t296.size : Int) - (ji18))) < 0 then 0 else (wrap64 ((t296.size : Int) - (ji18)))) = ji27 := hji27
       obtain ⟨ji28, hji28⟩ : ∃ j_ : Int, (mx x12_1 (t296.size : Int)) = j_ := ⟨_, rfl⟩
       replace H : (relex_Line.l0 k1 t296 (wrap64 (x11_1 + (ji27))) ji28 t298 (t298.length : Int) (wrap64 (x43_1 + 1))) = some (r1, r2) := by first | (rw [hji28] at H; exact H) | (simp only [hji28] at H ⊢; exact H)
       (try rw [hji28] at A17)
       (try rw [hji28] at A21)
       have hji28_ : (if x12_1 < (t296.size : Int) then (t296.size : Int) else x12_1) = ji28 := hji28; have H' := Aside0.mk H; clear H; have p302 : 0 ≤ (x43_1 : Int) := zt; have q302 : x43_1 < (t298.length : Int) := zt; obtain ⟨ad302, e302, hx302_0, hx302_1, hx302_2⟩ := at_T39 (Kd.R_reads' HO_41.out).2.2 x43_1 p302 q302
       cases e302
       replace p302 := eq_true p302; replace q302 := eq_true q302
       go_wp2_with (first | ((with_reducible refine zD 14 rfl ?_); refine zx 14 #[.int .i64 0, .int .i64 0, .string (⟨#[]⟩ : ByteArray)] 39 ?_; intro gb303 hg w29 hbox hb; replace HO_41 := Aside0.mk (Kd.R_below (Kd.R_elderB (zR HO_41) gb303 (Nat.le_of_eq hg.symm)) hb); have BK303 := Aside0.mk (hbox); have GW303 := (zq hg : Aside0 (w.heap.size ≤ gb303)); have GE303 := GW303; replace HB := (zB hb); clear hb hbox hg; obtain ⟨hcz30_0, hcz30_1, hcz30_2⟩ := zc3 BK303; obtain ⟨hfz30_0, hfz30_1, hfz30_2⟩ := zz3 BK303) | ((with_reducible refine zG 33 rfl ?_); refine zg 51 Try.func33 ((strings_LastIndexByte.calls (t296.extract 0 (((rd_T39 t298 x43_1).f0) : Int).toNat) 10 t304 _ A17.out).mono ?_); rintro e w' ⟨rfl, ⟨nd, rfl⟩⟩; refine ⟨_, rfl, ?_⟩) | ((with_reducible refine zG 35 rfl ?_); refine zg 61 Try.func35 ((strings_IndexByte.calls (t296.extract (((rd_T39 t298 x43_1).f1) : Int).toNat t296.size) 10 t305 _ A21.out).mono ?_); rintro e w' ⟨rfl, ⟨nd, rfl⟩⟩; refine ⟨_, rfl, ?_⟩))
       go_roundg k1
       case measure => have := HK1.out; omega
       case rel => exact ⟨(wrap64 (x11_1 + (ji27))), (ji28), (wrap64 (x43_1 + 1)), (by first | rfl | (simp; done) | (simp only [← hji27] <;> (first | rfl | simp)) | (simp [*]; done)), (by first | rfl | (simp; done) | (simp only [← hji28] <;> (first | rfl | simp)) | (simp [*]; done)), zs, H', zk, ⟨by (with_reducible repeat (first | apply Kd.R_alloc | apply Kd.R_drewN | apply Kd.R_drew)); exact Kd.R_mono (Kd.R_far (p := ⟨gb303, 2, none⟩) (Kd.R_far (p := ⟨gb303, 1, none⟩) (Kd.R_far (p := ⟨gb303, 0, none⟩) (Kd.R_mono HO_41.out (fun k_ hk => (⟨hk, hk.2⟩ : _ ∧ k_ ≠ gb303))) (fun _ hk => hk.2) (.int .i64 ((rd_T39 t298 x43_1).f0))) (fun _ hk => hk.2) (.int .i64 ((rd_T39 t298 x43_1).f1))) (fun _ hk => hk.2) (.string ((rd_T39 t298 x43_1).f2))) (fun _ hk => trivial)⟩, ⟨zb⟩⟩
     ·rw [if_neg c12] at H; have c12b0 := decide_eq_false c12; clear c12; simp only [Option.some.injEq, Prod.mk.injEq] at H; obtain ⟨rfl, rfl⟩ := H; go_wp2
      go_ret2
      exact ⟨zr, zb⟩
  ·rw [if_neg c6] at H; have c6b0 : (t297 == 0) = false := beq_eq_false_iff_ne.mpr c6; have c6b1 : (t297 != 0) = true := bne_iff_ne.mpr c6; simp only [Option.some.injEq, Prod.mk.injEq] at H; obtain ⟨rfl, rfl⟩ := H; go_enter Try.func23, Try.ntmps23
   go_wp2_with (first | ((with_reducible refine zG 30 rfl ?_); refine zg 20 Try.func30 ((token_Text.calls k _ _ l0 t294 t295 _ ?side1 ?side2 A3.out).mono ?_); (case side1 => exact zE HR0); (case side2 => exact HC0.out); rintro e w31 ⟨rfl, hb⟩; refine ⟨_, rfl, ?_⟩; replace HB := (zB hb); (try clear hb); (try clear hb2); (try clear hk); (try clear hi)) | ((with_reducible refine zG 27 rfl ?_); refine zg 29 Try.func27 ((rope_Apply.calls k t294 _ _ l1 t296 t297 _ ?side1 ?side2 A5.out).mono ?_); (case side1 => exact zC HR1); (case side2 => exact HC1.out); rintro e w32 ⟨rfl, hb⟩; refine ⟨_, rfl, ?_⟩; replace HB := (zB hb); (try clear hb); (try clear hb2); (try clear hk); (try clear hi)))
   go_ret2
   exact ⟨zr, zb⟩
 ·rw [if_neg c4] at H; have c4b0 : (t295 == 0) = false := beq_eq_false_iff_ne.mpr c4; have c4b1 : (t295 != 0) = true := bne_iff_ne.mpr c4; simp only [Option.some.injEq, Prod.mk.injEq] at H; obtain ⟨rfl, rfl⟩ := H; go_enter Try.func23, Try.ntmps23
  go_wp2_with (first | ((with_reducible refine zG 30 rfl ?_); refine zg 20 Try.func30 ((token_Text.calls k _ _ l0 t294 t295 _ ?side1 ?side2 A3.out).mono ?_); (case side1 => exact zE HR0); (case side2 => exact HC0.out); rintro e w33 ⟨rfl, hb⟩; refine ⟨_, rfl, ?_⟩; replace HB := (zB hb); (try clear hb); (try clear hb2); (try clear hk); (try clear hi)))
  go_ret2
  exact ⟨zr, zb⟩

/-! ### marginalialaw04_sample: function 39 -/
def marginalialaw04_sample.f (k : Nat)  : Option ((List (S59))) := (marginaliaref03_Lex.f k (⟨#[97, 32, 98, 32, 99]⟩ : ByteArray)).bind fun t306 => (some t306)
theorem marginalialaw04_sample.mono : ∀ k, LeO (marginalialaw04_sample.f k ) (marginalialaw04_sample.f (k + 1) ) := by
 intro  k; unfold marginalialaw04_sample.f
 repeat' first
   | (with_reducible exact marginaliaref03_Lex.mono _ _)
   | (with_reducible exact LeO.refl _)
   | (with_reducible exact LeO.none _)
   | (with_reducible refine LeO.ite ?_ ?_)
   | (with_reducible refine LeO.bind ?_ (fun _ => ?_))
   | exact marginaliaref03_Lex.mono _ _
   | exact LeO.none _
   | refine LeO.ite ?_ ?_
   | refine LeO.bind ?_ (fun _ => ?_)
set_option maxHeartbeats 8000000 in
set_option maxRecDepth 100000 in
theorem marginalialaw04_sample.calls (k : Nat)  (r : List (S59)) (w : World) (h : marginalialaw04_sample.f k  = some r) :
  Calls Try.prog 39 #[] w fun e w' => ∃ v0_ : Value, e = .returned (v0_) ∧ Kd.R k59 59 w' w.heap.size (fun _ => True) v0_ r ∧ Below w.heap.size w w' := by
 have HB := Aside0.mk (Below.refl w.heap.size w); have H : ((marginaliaref03_Lex.f k (⟨#[97, 32, 98, 32, 99]⟩ : ByteArray)).bind fun t306 => (some t306)) = some r := h; clear h; replace H := zo H; obtain ⟨t306, A1, H⟩ := H; obtain rfl := Option.some.inj H; go_enter Try.func39, Try.ntmps39
 go_wp2_with (first | ((with_reducible refine zG 15 rfl ?_); refine zg 1 Try.func15 ((marginaliaref03_Lex.calls k (⟨#[97, 32, 98, 32, 99]⟩ : ByteArray) t306 _ A1.out).mono ?_); rintro e w2 ⟨v307, rfl, ho0, hb⟩; refine ⟨_, rfl, ?_⟩; have HO308 := Aside0.mk (Kd.R_lower ho0 (below_size zb)); replace HB := (zB hb); (try clear hb); (try clear hb2); (try clear hk); (try clear hi); (try clear ho0)))
 go_ret; exact ⟨_, zr, by (with_reducible repeat (first | apply Kd.R_alloc | apply Kd.R_drewN | apply Kd.R_drew)); exact HO308.out, zb⟩

end Go.Proofs.Ytahcpappailjgaa.P

