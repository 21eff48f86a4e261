-- printed by xprint (a program of this session)
import Derived.Test.YtfllpoonfhiipaaPx0
namespace Go.Proofs.Ytfllpoonfhiipaa.P
open Go.RowKit Go.Proofs.YtfllpoonfhiipaaW.PrintWords Go.Proofs.YtfllpoonfhiipaaW.PrintLast Go.Proofs.YtfllpoonfhiipaaW.PrintMore
attribute [local go_sem] max2_int min2_int max_two min_two max_three min_three max_four min_four   -- for this text's walks alone
set_option linter.unusedVariables false
set_option linter.unusedSimpArgs false

/-! ### rope_Diff: function 28 -/
mutual
def rope_Diff.j1 : Nat → ByteArray → ByteArray → Int → Option ((List (S47)) × Int)
  | 0, _, _, _ => none
  | k + 1, x0, x1, x6 => rope_Diff.l1 k x0 x1 x6 0
def rope_Diff.l1 : Nat → ByteArray → ByteArray → Int → Int → Option ((List (S47)) × Int)
  | 0, _, _, _, _ => none
  | k + 1, x0, x1, x6, x7 => if x7 < (wrap64 ((mn (x0.size : Int) (x1.size : Int)) - x6)) then (if 0 ≤ (wrap64 ((wrap64 ((x0.size : Int) - 1)) - x7)) then (if (wrap64 ((wrap64 ((x0.size : Int) - 1)) - x7)) < (x0.size : Int) then (if 0 ≤ (wrap64 ((wrap64 ((x1.size : Int) - 1)) - x7)) then (if (wrap64 ((wrap64 ((x1.size : Int) - 1)) - x7)) < (x1.size : Int) then (if (bt x0 (wrap64 ((wrap64 ((x0.size : Int) - 1)) - x7))) = (bt x1 (wrap64 ((wrap64 ((x1.size : Int) - 1)) - x7))) then (rope_Diff.l1 k x0 x1 x6 (wrap64 (x7 + 1))) else (if 0 ≤ x6 then (if x6 ≤ (wrap64 ((x1.size : Int) - x7)) then (if (wrap64 ((x1.size : Int) - x7)) ≤ (x1.size : Int) then (some ((([(⟨x6, wrap64 ((x0.size : Int) - x7), x1.extract (x6 : Int).toNat ((wrap64 ((x1.size : Int) - x7)) : Int).toNat⟩ : S47)] : List (S47))), 0)) else (none)) else (none)) else (none))) else (none)) else (none)) else (none)) else (none)) else (if 0 ≤ x6 then (if x6 ≤ (wrap64 ((x1.size : Int) - x7)) then (if (wrap64 ((x1.size : Int) - x7)) ≤ (x1.size : Int) then (some ((([(⟨x6, wrap64 ((x0.size : Int) - x7), x1.extract (x6 : Int).toNat ((wrap64 ((x1.size : Int) - x7)) : Int).toNat⟩ : S47)] : List (S47))), 0)) else (none)) else (none)) else (none))
def rope_Diff.l0 : Nat → ByteArray → ByteArray → Int → Option ((List (S47)) × Int)
  | 0, _, _, _ => none
  | k + 1, x0, x1, x6 => if x6 < (mn (x0.size : Int) (x1.size : Int)) then (if 0 ≤ x6 then (if x6 < (x0.size : Int) then (if x6 < (x1.size : Int) then (if (bt x0 x6) = (bt x1 x6) then (rope_Diff.l0 k x0 x1 (wrap64 (x6 + 1))) else (rope_Diff.j1 k x0 x1 x6)) else (none)) else (none)) else (none)) else (rope_Diff.j1 k x0 x1 x6)
end
def rope_Diff.f (k : Nat) (a0 : ByteArray) (a1 : ByteArray) : Option ((List (S47)) × Int) := if (mx (a0.size : Int) (a1.size : Int)) > 20000 then (some (([] : List (S47)), 3)) else (if a0.toList = a1.toList then (some (([] : List (S47)), 0)) else (rope_Diff.l0 k a0 a1 0))
theorem rope_Diff.mono_l : ∀ k, (∀ y0 y1 y2, LeO (rope_Diff.j1 k y0 y1 y2) (rope_Diff.j1 (k + 1) y0 y1 y2)) ∧ (∀ y0 y1 y2 y3, LeO (rope_Diff.l1 k y0 y1 y2 y3) (rope_Diff.l1 (k + 1) y0 y1 y2 y3)) ∧ (∀ y0 y1 y2, LeO (rope_Diff.l0 k y0 y1 y2) (rope_Diff.l0 (k + 1) y0 y1 y2))
  | 0 => ⟨fun _ _ _ r h => by simp [rope_Diff.j1] at h, fun _ _ _ _ r h => by simp [rope_Diff.l1] at h, fun _ _ _ r h => by simp [rope_Diff.l0] at h⟩
  | k + 1 => by
    obtain ⟨ih0, ih1, ih2⟩ := rope_Diff.mono_l k
    refine ⟨?_, ?_, ?_⟩
    · intro y0 y1 y2
      unfold rope_Diff.j1
      repeat' first
      | (with_reducible exact ih0 _ _ _)
      | (with_reducible exact ih1 _ _ _ _)
      | (with_reducible exact ih2 _ _ _)
      | (with_reducible exact LeO.refl _)
      | (with_reducible exact LeO.none _)
      | (with_reducible refine LeO.ite ?_ ?_)
      | (with_reducible refine LeO.bind ?_ (fun _ => ?_))
      | exact ih0 _ _ _
      | exact ih1 _ _ _ _
      | exact ih2 _ _ _
      | exact LeO.none _
      | refine LeO.ite ?_ ?_
      | refine LeO.bind ?_ (fun _ => ?_)
    · intro y0 y1 y2 y3
      unfold rope_Diff.l1
      repeat' first
      | (with_reducible exact ih0 _ _ _)
      | (with_reducible exact ih1 _ _ _ _)
      | (with_reducible exact ih2 _ _ _)
      | (with_reducible exact LeO.refl _)
      | (with_reducible exact LeO.none _)
      | (with_reducible refine LeO.ite ?_ ?_)
      | (with_reducible refine LeO.bind ?_ (fun _ => ?_))
      | exact ih0 _ _ _
      | exact ih1 _ _ _ _
      | exact ih2 _ _ _
      | exact LeO.none _
      | refine LeO.ite ?_ ?_
      | refine LeO.bind ?_ (fun _ => ?_)
    · intro y0 y1 y2
      unfold rope_Diff.l0
      repeat' first
      | (with_reducible exact ih0 _ _ _)
      | (with_reducible exact ih1 _ _ _ _)
      | (with_reducible exact ih2 _ _ _)
      | (with_reducible exact LeO.refl _)
      | (with_reducible exact LeO.none _)
      | (with_reducible refine LeO.ite ?_ ?_)
      | (with_reducible refine LeO.bind ?_ (fun _ => ?_))
      | exact ih0 _ _ _
      | exact ih1 _ _ _ _
      | exact ih2 _ _ _
      | exact LeO.none _
      | refine LeO.ite ?_ ?_
      | refine LeO.bind ?_ (fun _ => ?_)
theorem rope_Diff.mono : ∀ a0 a1 k, LeO (rope_Diff.f k a0 a1) (rope_Diff.f (k + 1) a0 a1) := by
  intro a0 a1 k
  obtain ⟨ih0, ih1, ih2⟩ := rope_Diff.mono_l k
  unfold rope_Diff.f
  repeat' first
      | (with_reducible exact ih0 _ _ _)
      | (with_reducible exact ih1 _ _ _ _)
      | (with_reducible exact ih2 _ _ _)
      | (with_reducible exact LeO.refl _)
      | (with_reducible exact LeO.none _)
      | (with_reducible refine LeO.ite ?_ ?_)
      | (with_reducible refine LeO.bind ?_ (fun _ => ?_))
      | exact ih0 _ _ _
      | exact ih1 _ _ _ _
      | exact ih2 _ _ _
      | exact LeO.none _
      | refine LeO.ite ?_ ?_
      | refine LeO.bind ?_ (fun _ => ?_)
set_option maxHeartbeats 8000000 in
set_option maxRecDepth 100000 in
theorem rope_Diff.calls (k : Nat) (a0 : ByteArray) (a1 : ByteArray) (r1 : List (S47)) (r2 : Int) (w : World) (h : rope_Diff.f k a0 a1 = some (r1, r2)) :
    Calls Try.prog 28 #[.string a0, .string a1] w fun e w' => ∃ v0_ : Value, e = .returned (.tuple #[v0_, .int .i64 r2]) ∧ Kd.R k47 47 w' w.heap.size (fun _ => True) v0_ r1 ∧ Below w.heap.size w w' := by
  have hu47 := Try.underlying47
  have HB := Aside0.mk (Below.refl w.heap.size w)
  have H : (if (mx (a0.size : Int) (a1.size : Int)) > 20000 then (some (([] : List (S47)), 3)) else (if a0.toList = a1.toList then (some (([] : List (S47)), 0)) else (rope_Diff.l0 k a0 a1 0))) = some (r1, r2) := h
  clear h
  obtain ⟨ji3, hji3⟩ : ∃ j_ : Int, (mx (a0.size : Int) (a1.size : Int)) = j_ := ⟨_, rfl⟩
  replace H : (if (ji3) > 20000 then (some (([] : List (S47)), 3)) else (if a0.toList = a1.toList then (some (([] : List (S47)), 0)) else (rope_Diff.l0 k a0 a1 0))) = some (r1, r2) := by first | (rw [hji3] at H; exact H) | (simp only [hji3] at H ⊢; exact H)
  (try (have hji3l : 0 ≤ ji3 := by (rw [← hji3]; unfold mx; (repeat' split) <;> omega)))
  (try (have hji3m : 0 ≤ ji3 := by omega))
  have hji3_ : (if (a0.size : Int) < (a1.size : Int) then (a1.size : Int) else (a0.size : Int)) = ji3 := hji3
  have hji3n : (if a0.size < a1.size then (a1.size : Int) else (a0.size : Int)) = ji3 := by rw [← hji3]; unfold mx; (repeat' split) <;> omega
  by_cases c4 : (ji3) > 20000
  · rw [if_pos c4] at H
    have c4b0 : decide (20000 < (ji3)) = true := decide_eq_true c4
    clear c4
    simp only [Option.some.injEq, Prod.mk.injEq] at H
    obtain ⟨rfl, rfl⟩ := H
    go_enter Try.func28, Try.ntmps28
    go_wp2
    repeat (go_quiet (fail); try go_wp2)
    go_ret2
    exact ⟨_, by first | rfl | (simp [errW_none, errW_some] <;> rfl) | (simp only [← hji3]; first | rfl | (simp [errW_none, errW_some] <;> rfl)) | (simp [*, errW_none, errW_some] <;> rfl), by first | exact Kd.R_nil _ _ _ _ _ | exact Kd.N_nil _ _ _ _ _ | exact Kd.V_nil _ _ _ _ _ | exact Kd.Q_nil _ _ _ _ _ | exact Kd.S_nil _ _ _ _ _, by repeat (first | (with_reducible first | exact HB.out | apply below_alloc | apply pw_below_drewN | apply below_drew1) | exact HB.out)⟩
  · rw [if_neg c4] at H
    have c4b0 : decide (20000 < (ji3)) = false := decide_eq_false c4
    clear c4
    by_cases c5 : a0.toList = a1.toList
    · rw [if_pos c5] at H
      have c5b0 : (a0.toList == a1.toList) = true := beq_iff_eq.mpr c5
      have c5b1 : (a0.toList != a1.toList) = false := bne_eq_false_iff_eq.mpr c5
      clear c5
      simp only [Option.some.injEq, Prod.mk.injEq] at H
      obtain ⟨rfl, rfl⟩ := H
      go_enter Try.func28, Try.ntmps28
      go_wp2
      repeat (go_quiet (fail); try go_wp2)
      go_ret2
      exact ⟨_, by first | rfl | (simp [errW_none, errW_some] <;> rfl) | (simp only [← hji3]; first | rfl | (simp [errW_none, errW_some] <;> rfl)) | (simp [*, errW_none, errW_some] <;> rfl), by first | exact Kd.R_nil _ _ _ _ _ | exact Kd.N_nil _ _ _ _ _ | exact Kd.V_nil _ _ _ _ _ | exact Kd.Q_nil _ _ _ _ _ | exact Kd.S_nil _ _ _ _ _, by repeat (first | (with_reducible first | exact HB.out | apply below_alloc | apply pw_below_drewN | apply below_drew1) | exact HB.out)⟩
    · rw [if_neg c5] at H
      have c5b0 : (a0.toList == a1.toList) = false := beq_eq_false_iff_ne.mpr c5
      have c5b1 : (a0.toList != a1.toList) = true := bne_iff_ne.mpr c5
      have HC6 := Aside0.mk H
      clear H
      go_enter Try.func28, Try.ntmps28
      go_upto_block 0 with (fail)
      repeat (go_quiet (fail); go_upto_block 0 with (fail))
      go_cut [6] (fun v6 wc => ∃ (kq : Nat) (x6_5 : Int), v6 = .int .i64 x6_5 ∧ Aside0 (rope_Diff.j1 kq a0 a1 x6_5 = some (r1, r2)) ∧ Aside0 (kq ≤ k) ∧ Aside0 (Below w.heap.size w wc))
      case first =>
        have H := HC6.out
        clear HC6
        have H' := Aside0.mk H
        clear H
        go_wp2
        repeat (go_quiet (fail); try go_wp2)
        go_loopg [6] k (fun kq v6 w' => ∃ (x6_1 : Int), v6 = .int .i64 x6_1 ∧ Aside0 (rope_Diff.l0 kq a0 a1 x6_1 = some (r1, r2)) ∧ Aside0 (kq ≤ k) ∧ Aside0 (Below w.heap.size w w'))
        case atStart => exact ⟨(0), (by first | rfl | (simp; done) | (simp [*]; done)), H', ⟨Nat.le_refl _⟩, ⟨by repeat (first | (with_reducible first | exact HB.out | apply below_alloc | apply pw_below_drewN | apply below_drew1) | exact HB.out)⟩⟩
        case round =>
          clear H'
          try clear c2
          try clear p2
          try clear c4
          try clear c4b0
          try clear c5
          try clear c5b0
          try clear c5b1
          obtain ⟨x6_1, rfl, HA, HK1, HB⟩ := hrel
          cases gk with
          | zero => exact absurd HA.out (by simp [rope_Diff.l0])
          | succ k1 =>
            have H := HA.out
            clear HA
            simp only [rope_Diff.l0] at H
            obtain ⟨ji7, hji7⟩ : ∃ j_ : Int, (mn (a0.size : Int) (a1.size : Int)) = j_ := ⟨_, rfl⟩
            replace H : (if x6_1 < (ji7) then (if 0 ≤ x6_1 then (if x6_1 < (a0.size : Int) then (if x6_1 < (a1.size : Int) then (if (bt a0 x6_1) = (bt a1 x6_1) then (rope_Diff.l0 k1 a0 a1 (wrap64 (x6_1 + 1))) else (rope_Diff.j1 k1 a0 a1 x6_1)) else (none)) else (none)) else (none)) else (rope_Diff.j1 k1 a0 a1 x6_1)) = some (r1, r2) := by first | (rw [hji7] at H; exact H) | (simp only [hji7] at H ⊢; exact H)
            have hji7_ : (if (a1.size : Int) < (a0.size : Int) then (a1.size : Int) else (a0.size : Int)) = ji7 := hji7
            have hji7n : (if a1.size < a0.size then (a1.size : Int) else (a0.size : Int)) = ji7 := by rw [← hji7]; unfold mn; (repeat' split) <;> omega
            by_cases c8 : x6_1 < (ji7)
            · rw [if_pos c8] at H
              have c8b0 : decide (x6_1 < (ji7)) = true := decide_eq_true c8
              clear c8
              (first | rw [c8b0] | (simp only [i64_w, i32_w]; rw [c8b0]) | skip)
              by_cases c9 : 0 ≤ x6_1
              · rw [if_pos c9] at H
                have c9b0 : decide (0 ≤ x6_1) = true := decide_eq_true c9
                clear c9
                by_cases c10 : x6_1 < (a0.size : Int)
                · rw [if_pos c10] at H
                  have c10b0 : decide (x6_1 < (a0.size : Int)) = true := decide_eq_true c10
                  clear c10
                  by_cases c12 : x6_1 < (a1.size : Int)
                  · rw [if_pos c12] at H
                    have c12b0 : decide (x6_1 < (a1.size : Int)) = true := decide_eq_true c12
                    clear c12
                    by_cases c14 : (bt a0 x6_1) = (bt a1 x6_1)
                    · rw [if_pos c14] at H
                      have c14b0 : ((bt a0 x6_1) == (bt a1 x6_1)) = true := beq_iff_eq.mpr c14
                      have c14b1 : ((bt a0 x6_1) != (bt a1 x6_1)) = false := bne_eq_false_iff_eq.mpr c14
                      clear c14
                      have H' := Aside0.mk H
                      clear H
                      have p11 : 0 ≤ (x6_1 : Int) := of_decide_eq_true (by first | (with_reducible assumption) | assumption)
                      have q11 : x6_1 < (a0.size : Int) := of_decide_eq_true (by first | (with_reducible assumption) | assumption)
                      have hx11 := bt_at a0 x6_1
                      replace p11 := eq_true p11
                      replace q11 := eq_true q11
                      have p13 : 0 ≤ (x6_1 : Int) := of_decide_eq_true (by first | (with_reducible assumption) | assumption)
                      have q13 : x6_1 < (a1.size : Int) := of_decide_eq_true (by first | (with_reducible assumption) | assumption)
                      have hx13 := bt_at a1 x6_1
                      replace p13 := eq_true p13
                      replace q13 := eq_true q13
                      go_wp2
                      repeat (go_quiet (fail); try go_wp2)
                      go_roundg k1
                      case measure => have := HK1.out; omega
                      case rel => exact ⟨(wrap64 (x6_1 + 1)), (by first | rfl | (simp; done) | (simp [*]; done)), H', ⟨by have := HK1.out; omega⟩, ⟨by repeat (first | (with_reducible first | exact HB.out | apply below_alloc | apply pw_below_drewN | apply below_drew1) | exact HB.out)⟩⟩
                    · rw [if_neg c14] at H
                      have c14b0 : ((bt a0 x6_1) == (bt a1 x6_1)) = false := beq_eq_false_iff_ne.mpr c14
                      have c14b1 : ((bt a0 x6_1) != (bt a1 x6_1)) = true := bne_iff_ne.mpr c14
                      have H' := Aside0.mk H
                      clear H
                      have p11 : 0 ≤ (x6_1 : Int) := of_decide_eq_true (by first | (with_reducible assumption) | assumption)
                      have q11 : x6_1 < (a0.size : Int) := of_decide_eq_true (by first | (with_reducible assumption) | assumption)
                      have hx11 := bt_at a0 x6_1
                      replace p11 := eq_true p11
                      replace q11 := eq_true q11
                      have p13 : 0 ≤ (x6_1 : Int) := of_decide_eq_true (by first | (with_reducible assumption) | assumption)
                      have q13 : x6_1 < (a1.size : Int) := of_decide_eq_true (by first | (with_reducible assumption) | assumption)
                      have hx13 := bt_at a1 x6_1
                      replace p13 := eq_true p13
                      replace q13 := eq_true q13
                      go_wp2
                      repeat (go_quiet (fail); try go_wp2)
                      go_meet
                      case rel => exact ⟨_, (x6_1), (by first | rfl | (simp; done) | (simp [*]; done)), H', ⟨by have := HK1.out; first | omega | exact Nat.le_refl _⟩, ⟨by repeat (first | (with_reducible first | exact HB.out | apply below_alloc | apply pw_below_drewN | apply below_drew1) | exact HB.out)⟩⟩
                  · rw [if_neg c12] at H
                    exact absurd H (by simp)
                · rw [if_neg c10] at H
                  exact absurd H (by simp)
              · rw [if_neg c9] at H
                exact absurd H (by simp)
            · rw [if_neg c8] at H
              have c8b0 : decide (x6_1 < (ji7)) = false := decide_eq_false c8
              clear c8
              (first | rw [c8b0] | (simp only [i64_w, i32_w]; rw [c8b0]) | skip)
              have H' := Aside0.mk H
              clear H
              go_wp2
              repeat (go_quiet (fail); try go_wp2)
              go_meet
              case rel => exact ⟨_, (x6_1), (by first | rfl | (simp; done) | (simp [*]; done)), H', ⟨by have := HK1.out; first | omega | exact Nat.le_refl _⟩, ⟨by repeat (first | (with_reducible first | exact HB.out | apply below_alloc | apply pw_below_drewN | apply below_drew1) | exact HB.out)⟩⟩
      case rest =>
        clear HC6
        try clear c1
        try clear p1
        try clear q1
        try clear hx1
        try clear c2
        try clear p2
        try clear c4
        try clear c4b0
        try clear c5
        try clear c5b0
        try clear c5b1
        try clear p6
        try clear c8
        try clear c8b0
        try clear c9
        try clear c9b0
        try clear c10
        try clear c10b0
        try clear p11
        try clear q11
        try clear hx11
        try clear c12
        try clear c12b0
        try clear p13
        try clear q13
        try clear hx13
        try clear c14
        try clear c14b0
        try clear c14b1
        try clear p11
        try clear p13
        try clear p2
        try clear q11
        try clear q13
        obtain ⟨kq, x6_5, rfl, HA, HJ5, HB⟩ := hcut
        cases kq with
        | zero => exact absurd HA.out (by simp [rope_Diff.j1])
        | succ kj5 =>
          have H := HA.out
          clear HA
          simp only [rope_Diff.j1] at H
          have H' := Aside0.mk H
          clear H
          go_wp2
          repeat (go_quiet (fail); try go_wp2)
          go_loopg [7] kj5 (fun kq v7 w' => ∃ (x7_2 : Int), v7 = .int .i64 x7_2 ∧ Aside0 (rope_Diff.l1 kq a0 a1 x6_5 x7_2 = some (r1, r2)) ∧ Aside0 (kq ≤ kj5) ∧ Aside0 (Below w.heap.size w w'))
          case atStart => exact ⟨(0), (by first | rfl | (simp; done) | (simp [*]; done)), H', ⟨Nat.le_refl _⟩, ⟨by repeat (first | (with_reducible first | exact HB.out | apply below_alloc | apply pw_below_drewN | apply below_drew1) | exact HB.out)⟩⟩
          case round =>
            clear H'
            try clear c1
            try clear p1
            try clear q1
            try clear hx1
            try clear c2
            try clear p2
            try clear c4
            try clear c4b0
            try clear c5
            try clear c5b0
            try clear c5b1
            try clear p6
            try clear c8
            try clear c8b0
            try clear c9
            try clear c9b0
            try clear c10
            try clear c10b0
            try clear p11
            try clear q11
            try clear hx11
            try clear c12
            try clear c12b0
            try clear p13
            try clear q13
            try clear hx13
            try clear c14
            try clear c14b0
            try clear c14b1
            try clear p1
            try clear p11
            try clear p13
            try clear p2
            try clear p6
            try clear q1
            try clear q11
            try clear q13
            obtain ⟨x7_2, rfl, HA, HK2, HB⟩ := hrel
            cases gk with
            | zero => exact absurd HA.out (by simp [rope_Diff.l1])
            | succ k2 =>
              have H := HA.out
              clear HA
              simp only [rope_Diff.l1] at H
              obtain ⟨ji15, hji15⟩ : ∃ j_ : Int, (mn (a0.size : Int) (a1.size : Int)) = j_ := ⟨_, rfl⟩
              replace H : (if x7_2 < (wrap64 ((ji15) - x6_5)) then (if 0 ≤ (wrap64 ((wrap64 ((a0.size : Int) - 1)) - x7_2)) then (if (wrap64 ((wrap64 ((a0.size : Int) - 1)) - x7_2)) < (a0.size : Int) then (if 0 ≤ (wrap64 ((wrap64 ((a1.size : Int) - 1)) - x7_2)) then (if (wrap64 ((wrap64 ((a1.size : Int) - 1)) - x7_2)) < (a1.size : Int) then (if (bt a0 (wrap64 ((wrap64 ((a0.size : Int) - 1)) - x7_2))) = (bt a1 (wrap64 ((wrap64 ((a1.size : Int) - 1)) - x7_2))) then (rope_Diff.l1 k2 a0 a1 x6_5 (wrap64 (x7_2 + 1))) else (if 0 ≤ x6_5 then (if x6_5 ≤ (wrap64 ((a1.size : Int) - x7_2)) then (if (wrap64 ((a1.size : Int) - x7_2)) ≤ (a1.size : Int) then (some ((([(⟨x6_5, wrap64 ((a0.size : Int) - x7_2), a1.extract (x6_5 : Int).toNat ((wrap64 ((a1.size : Int) - x7_2)) : Int).toNat⟩ : S47)] : List (S47))), 0)) else (none)) else (none)) else (none))) else (none)) else (none)) else (none)) else (none)) else (if 0 ≤ x6_5 then (if x6_5 ≤ (wrap64 ((a1.size : Int) - x7_2)) then (if (wrap64 ((a1.size : Int) - x7_2)) ≤ (a1.size : Int) then (some ((([(⟨x6_5, wrap64 ((a0.size : Int) - x7_2), a1.extract (x6_5 : Int).toNat ((wrap64 ((a1.size : Int) - x7_2)) : Int).toNat⟩ : S47)] : List (S47))), 0)) else (none)) else (none)) else (none))) = some (r1, r2) := by first | (rw [hji15] at H; exact H) | (simp only [hji15] at H ⊢; exact H)
              have hji15_ : (if (a1.size : Int) < (a0.size : Int) then (a1.size : Int) else (a0.size : Int)) = ji15 := hji15
              have hji15n : (if a1.size < a0.size then (a1.size : Int) else (a0.size : Int)) = ji15 := by rw [← hji15]; unfold mn; (repeat' split) <;> omega
              by_cases c16 : x7_2 < (wrap64 ((ji15) - x6_5))
              · rw [if_pos c16] at H
                have c16b0 : decide (x7_2 < (wrap64 ((ji15) - x6_5))) = true := decide_eq_true c16
                clear c16
                obtain ⟨ji17, hji17⟩ : ∃ j_ : Int, (wrap64 ((wrap64 ((a0.size : Int) - 1)) - x7_2)) = j_ := ⟨_, rfl⟩
                replace H : (if 0 ≤ (ji17) then (if (ji17) < (a0.size : Int) then (if 0 ≤ (wrap64 ((wrap64 ((a1.size : Int) - 1)) - x7_2)) then (if (wrap64 ((wrap64 ((a1.size : Int) - 1)) - x7_2)) < (a1.size : Int) then (if (bt a0 (ji17)) = (bt a1 (wrap64 ((wrap64 ((a1.size : Int) - 1)) - x7_2))) then (rope_Diff.l1 k2 a0 a1 x6_5 (wrap64 (x7_2 + 1))) else (if 0 ≤ x6_5 then (if x6_5 ≤ (wrap64 ((a1.size : Int) - x7_2)) then (if (wrap64 ((a1.size : Int) - x7_2)) ≤ (a1.size : Int) then (some ((([(⟨x6_5, wrap64 ((a0.size : Int) - x7_2), a1.extract (x6_5 : Int).toNat ((wrap64 ((a1.size : Int) - x7_2)) : Int).toNat⟩ : S47)] : List (S47))), 0)) else (none)) else (none)) else (none))) else (none)) else (none)) else (none)) else (none)) = some (r1, r2) := by first | (rw [hji17] at H; exact H) | (simp only [hji17] at H ⊢; exact H)
                have hji17w : (IntKind.i64.wrap ((wrap64 ((a0.size : Int) - 1)) - x7_2)) = ji17 := (i64_w _).trans hji17
                by_cases c18 : 0 ≤ (ji17)
                · rw [if_pos c18] at H
                  have c18b0 : decide (0 ≤ (ji17)) = true := decide_eq_true c18
                  clear c18
                  by_cases c19 : (ji17) < (a0.size : Int)
                  · rw [if_pos c19] at H
                    have c19b0 : decide ((ji17) < (a0.size : Int)) = true := decide_eq_true c19
                    clear c19
                    obtain ⟨ji21, hji21⟩ : ∃ j_ : Int, (wrap64 ((wrap64 ((a1.size : Int) - 1)) - x7_2)) = j_ := ⟨_, rfl⟩
                    replace H : (if 0 ≤ (ji21) then (if (ji21) < (a1.size : Int) then (if (bt a0 (ji17)) = (bt a1 (ji21)) then (rope_Diff.l1 k2 a0 a1 x6_5 (wrap64 (x7_2 + 1))) else (if 0 ≤ x6_5 then (if x6_5 ≤ (wrap64 ((a1.size : Int) - x7_2)) then (if (wrap64 ((a1.size : Int) - x7_2)) ≤ (a1.size : Int) then (some ((([(⟨x6_5, wrap64 ((a0.size : Int) - x7_2), a1.extract (x6_5 : Int).toNat ((wrap64 ((a1.size : Int) - x7_2)) : Int).toNat⟩ : S47)] : List (S47))), 0)) else (none)) else (none)) else (none))) else (none)) else (none)) = some (r1, r2) := by first | (rw [hji21] at H; exact H) | (simp only [hji21] at H ⊢; exact H)
                    have hji21w : (IntKind.i64.wrap ((wrap64 ((a1.size : Int) - 1)) - x7_2)) = ji21 := (i64_w _).trans hji21
                    by_cases c22 : 0 ≤ (ji21)
                    · rw [if_pos c22] at H
                      have c22b0 : decide (0 ≤ (ji21)) = true := decide_eq_true c22
                      clear c22
                      by_cases c23 : (ji21) < (a1.size : Int)
                      · rw [if_pos c23] at H
                        have c23b0 : decide ((ji21) < (a1.size : Int)) = true := decide_eq_true c23
                        clear c23
                        by_cases c25 : (bt a0 (ji17)) = (bt a1 (ji21))
                        · rw [if_pos c25] at H
                          have c25b0 : ((bt a0 (ji17)) == (bt a1 (ji21))) = true := beq_iff_eq.mpr c25
                          have c25b1 : ((bt a0 (ji17)) != (bt a1 (ji21))) = false := bne_eq_false_iff_eq.mpr c25
                          clear c25
                          have H' := Aside0.mk H
                          clear H
                          have p20 : 0 ≤ ((ji17) : Int) := of_decide_eq_true (by first | (with_reducible assumption) | assumption)
                          have q20 : (ji17) < (a0.size : Int) := of_decide_eq_true (by first | (with_reducible assumption) | assumption)
                          have hx20 := bt_at a0 (ji17)
                          replace p20 := eq_true p20
                          replace q20 := eq_true q20
                          have p24 : 0 ≤ ((ji21) : Int) := of_decide_eq_true (by first | (with_reducible assumption) | assumption)
                          have q24 : (ji21) < (a1.size : Int) := of_decide_eq_true (by first | (with_reducible assumption) | assumption)
                          have hx24 := bt_at a1 (ji21)
                          replace p24 := eq_true p24
                          replace q24 := eq_true q24
                          go_wp2
                          repeat (go_quiet (fail); try go_wp2)
                          go_roundg k2
                          case measure => have := HJ5.out; have := HK2.out; omega
                          case rel => exact ⟨(wrap64 (x7_2 + 1)), (by first | rfl | (simp; done) | (simp [*]; done)), H', ⟨by have := HJ5.out; have := HK2.out; omega⟩, ⟨by repeat (first | (with_reducible first | exact HB.out | apply below_alloc | apply pw_below_drewN | apply below_drew1) | exact HB.out)⟩⟩
                        · rw [if_neg c25] at H
                          have c25b0 : ((bt a0 (ji17)) == (bt a1 (ji21))) = false := beq_eq_false_iff_ne.mpr c25
                          have c25b1 : ((bt a0 (ji17)) != (bt a1 (ji21))) = true := bne_iff_ne.mpr c25
                          by_cases c26 : 0 ≤ x6_5
                          · rw [if_pos c26] at H
                            have c26b0 := eq_true c26
                            have c26b1 : decide (0 ≤ x6_5) = true := decide_eq_true c26
                            clear c26
                            by_cases c27 : x6_5 ≤ (wrap64 ((a1.size : Int) - x7_2))
                            · rw [if_pos c27] at H
                              have c27b0 := eq_true c27
                              have c27b1 : decide (x6_5 ≤ (wrap64 ((a1.size : Int) - x7_2))) = true := decide_eq_true c27
                              clear c27
                              by_cases c28 : (wrap64 ((a1.size : Int) - x7_2)) ≤ (a1.size : Int)
                              · rw [if_pos c28] at H
                                have c28b0 := eq_true c28
                                have c28b1 : decide ((wrap64 ((a1.size : Int) - x7_2)) ≤ (a1.size : Int)) = true := decide_eq_true c28
                                clear c28
                                obtain ⟨y127, hy127⟩ : ∃ y_ : List (S47), y_ = (([(⟨x6_5, wrap64 ((a0.size : Int) - x7_2), a1.extract (x6_5 : Int).toNat ((wrap64 ((a1.size : Int) - x7_2)) : Int).toNat⟩ : S47)] : List (S47))) := ⟨_, rfl⟩
                                replace H : (some (y127, 0)) = some (r1, r2) := by first | (rw [hy127]; with_reducible exact H) | (have H2_ := (Option.bind_some _ _).symm.trans H; rw [hy127]; with_reducible exact H2_) | (have H2_ := (Option.bind_some _ _).symm.trans H; with_reducible exact H2_) | with_reducible exact H | (rw [hy127]; exact H) | exact H
                                have Ny127 := Aside0.mk hy127
                                clear hy127
                                simp only [Option.some.injEq, Prod.mk.injEq] at H
                                obtain ⟨rfl, rfl⟩ := H
                                have p20 : 0 ≤ ((ji17) : Int) := of_decide_eq_true (by first | (with_reducible assumption) | assumption)
                                have q20 : (ji17) < (a0.size : Int) := of_decide_eq_true (by first | (with_reducible assumption) | assumption)
                                have hx20 := bt_at a0 (ji17)
                                replace p20 := eq_true p20
                                replace q20 := eq_true q20
                                have p24 : 0 ≤ ((ji21) : Int) := of_decide_eq_true (by first | (with_reducible assumption) | assumption)
                                have q24 : (ji21) < (a1.size : Int) := of_decide_eq_true (by first | (with_reducible assumption) | assumption)
                                have hx24 := bt_at a1 (ji21)
                                replace p24 := eq_true p24
                                replace q24 := eq_true q24
                                go_wp2_with (first | ((with_reducible refine gate_dst (N := 76) rfl ?_); (try (refine gate_guard (by rfl) ?_; dsimp only)); refine Kd.R_lit k47 _ 47 ?hg (N := 76) ?hd (xs := ([(⟨x6_5, wrap64 ((a0.size : Int) - x7_2), a1.extract (x6_5 : Int).toNat ((wrap64 ((a1.size : Int) - x7_2)) : Int).toNat⟩ : S47)] : List (S47))) (inner := [.int .i64 x6_5, .int .i64 (wrap64 ((a0.size : Int) - x7_2)), .string (a1.extract (x6_5 : Int).toNat ((wrap64 ((a1.size : Int) - x7_2)) : Int).toNat)]) (ok := fun _ => True) (okp := fun _ => True) ?hr ?hp (fun _ hk => hk) trivial (Below.refl _ _) (Nat.le_refl _) (by simp) ?_; (case hd => rfl); (case hg => rfl); (case hr => first | (go_simp; done) | (go_simp; rfl)); (case hp => exact (Reps.c3 (show Kd.M k47 _ _ _ (⟨x6_5, wrap64 ((a0.size : Int) - x7_2), a1.extract (x6_5 : Int).toNat ((wrap64 ((a1.size : Int) - x7_2)) : Int).toNat⟩ : S47) [.int .i64 x6_5, .int .i64 (wrap64 ((a0.size : Int) - x7_2)), .string (a1.extract (x6_5 : Int).toNat ((wrap64 ((a1.size : Int) - x7_2)) : Int).toNat)] from (k47_mkM _ _ _ (⟨x6_5, wrap64 ((a0.size : Int) - x7_2), a1.extract (x6_5 : Int).toNat ((wrap64 ((a1.size : Int) - x7_2)) : Int).toNat⟩ : S47) )) (Reps.none _ _))); intro v128 w29 ho30 hb hg_ hnew_; clear hg_ hnew_; (first | rw [← Ny127.out] at ho30 | (simp only [Int.reduceToNat] at ho30; rw [← Ny127.out] at ho30)); have n0_ := Aside0.mk (Kd.R_lower ho30 (below_size (by repeat (first | (with_reducible first | exact HB.out | apply below_alloc | apply pw_below_drewN | apply below_drew1) | exact HB.out)))); have n1_ := Aside0.mk (below_step (by repeat (first | (with_reducible first | exact HB.out | apply below_alloc | apply pw_below_drewN | apply below_drew1) | exact HB.out)) hb); clear HB; have HO129 := n0_; have HB := n1_; clear n0_ n1_; clear hb ho30))
                                repeat (go_quiet (first | ((with_reducible refine gate_dst (N := 76) rfl ?_); (try (refine gate_guard (by rfl) ?_; dsimp only)); refine Kd.R_lit k47 _ 47 ?hg (N := 76) ?hd (xs := ([(⟨x6_5, wrap64 ((a0.size : Int) - x7_2), a1.extract (x6_5 : Int).toNat ((wrap64 ((a1.size : Int) - x7_2)) : Int).toNat⟩ : S47)] : List (S47))) (inner := [.int .i64 x6_5, .int .i64 (wrap64 ((a0.size : Int) - x7_2)), .string (a1.extract (x6_5 : Int).toNat ((wrap64 ((a1.size : Int) - x7_2)) : Int).toNat)]) (ok := fun _ => True) (okp := fun _ => True) ?hr ?hp (fun _ hk => hk) trivial (Below.refl _ _) (Nat.le_refl _) (by simp) ?_; (case hd => rfl); (case hg => rfl); (case hr => first | (go_simp; done) | (go_simp; rfl)); (case hp => exact (Reps.c3 (show Kd.M k47 _ _ _ (⟨x6_5, wrap64 ((a0.size : Int) - x7_2), a1.extract (x6_5 : Int).toNat ((wrap64 ((a1.size : Int) - x7_2)) : Int).toNat⟩ : S47) [.int .i64 x6_5, .int .i64 (wrap64 ((a0.size : Int) - x7_2)), .string (a1.extract (x6_5 : Int).toNat ((wrap64 ((a1.size : Int) - x7_2)) : Int).toNat)] from (k47_mkM _ _ _ (⟨x6_5, wrap64 ((a0.size : Int) - x7_2), a1.extract (x6_5 : Int).toNat ((wrap64 ((a1.size : Int) - x7_2)) : Int).toNat⟩ : S47) )) (Reps.none _ _))); intro v128 w29 ho30 hb hg_ hnew_; clear hg_ hnew_; (first | rw [← Ny127.out] at ho30 | (simp only [Int.reduceToNat] at ho30; rw [← Ny127.out] at ho30)); have n0_ := Aside0.mk (Kd.R_lower ho30 (below_size (by repeat (first | (with_reducible first | exact HB.out | apply below_alloc | apply pw_below_drewN | apply below_drew1) | exact HB.out)))); have n1_ := Aside0.mk (below_step (by repeat (first | (with_reducible first | exact HB.out | apply below_alloc | apply pw_below_drewN | apply below_drew1) | exact HB.out)) hb); clear HB; have HO129 := n0_; have HB := n1_; clear n0_ n1_; clear hb ho30)); try go_wp2_with (first | ((with_reducible refine gate_dst (N := 76) rfl ?_); (try (refine gate_guard (by rfl) ?_; dsimp only)); refine Kd.R_lit k47 _ 47 ?hg (N := 76) ?hd (xs := ([(⟨x6_5, wrap64 ((a0.size : Int) - x7_2), a1.extract (x6_5 : Int).toNat ((wrap64 ((a1.size : Int) - x7_2)) : Int).toNat⟩ : S47)] : List (S47))) (inner := [.int .i64 x6_5, .int .i64 (wrap64 ((a0.size : Int) - x7_2)), .string (a1.extract (x6_5 : Int).toNat ((wrap64 ((a1.size : Int) - x7_2)) : Int).toNat)]) (ok := fun _ => True) (okp := fun _ => True) ?hr ?hp (fun _ hk => hk) trivial (Below.refl _ _) (Nat.le_refl _) (by simp) ?_; (case hd => rfl); (case hg => rfl); (case hr => first | (go_simp; done) | (go_simp; rfl)); (case hp => exact (Reps.c3 (show Kd.M k47 _ _ _ (⟨x6_5, wrap64 ((a0.size : Int) - x7_2), a1.extract (x6_5 : Int).toNat ((wrap64 ((a1.size : Int) - x7_2)) : Int).toNat⟩ : S47) [.int .i64 x6_5, .int .i64 (wrap64 ((a0.size : Int) - x7_2)), .string (a1.extract (x6_5 : Int).toNat ((wrap64 ((a1.size : Int) - x7_2)) : Int).toNat)] from (k47_mkM _ _ _ (⟨x6_5, wrap64 ((a0.size : Int) - x7_2), a1.extract (x6_5 : Int).toNat ((wrap64 ((a1.size : Int) - x7_2)) : Int).toNat⟩ : S47) )) (Reps.none _ _))); intro v128 w29 ho30 hb hg_ hnew_; clear hg_ hnew_; (first | rw [← Ny127.out] at ho30 | (simp only [Int.reduceToNat] at ho30; rw [← Ny127.out] at ho30)); have n0_ := Aside0.mk (Kd.R_lower ho30 (below_size (by repeat (first | (with_reducible first | exact HB.out | apply below_alloc | apply pw_below_drewN | apply below_drew1) | exact HB.out)))); have n1_ := Aside0.mk (below_step (by repeat (first | (with_reducible first | exact HB.out | apply below_alloc | apply pw_below_drewN | apply below_drew1) | exact HB.out)) hb); clear HB; have HO129 := n0_; have HB := n1_; clear n0_ n1_; clear hb ho30)))
                                go_ret2
                                exact ⟨_, by first | rfl | (simp [errW_none, errW_some] <;> rfl) | (simp only [← hji3, ← hji15, ← hji17, ← hji21]; first | rfl | (simp [errW_none, errW_some] <;> rfl)) | (simp [*, errW_none, errW_some] <;> rfl), by (with_reducible repeat (first | apply Kd.R_alloc | apply Kd.R_drewN | apply Kd.R_drew)); exact HO129.out, by repeat (first | (with_reducible first | exact HB.out | apply below_alloc | apply pw_below_drewN | apply below_drew1) | exact HB.out)⟩
                              · rw [if_neg c28] at H
                                exact absurd H (by simp)
                            · rw [if_neg c27] at H
                              exact absurd H (by simp)
                          · rw [if_neg c26] at H
                            exact absurd H (by simp)
                      · rw [if_neg c23] at H
                        exact absurd H (by simp)
                    · rw [if_neg c22] at H
                      exact absurd H (by simp)
                  · rw [if_neg c19] at H
                    exact absurd H (by simp)
                · rw [if_neg c18] at H
                  exact absurd H (by simp)
              · rw [if_neg c16] at H
                have c16b0 : decide (x7_2 < (wrap64 ((ji15) - x6_5))) = false := decide_eq_false c16
                clear c16
                by_cases c31 : 0 ≤ x6_5
                · rw [if_pos c31] at H
                  have c31b0 := eq_true c31
                  have c31b1 : decide (0 ≤ x6_5) = true := decide_eq_true c31
                  clear c31
                  by_cases c32 : x6_5 ≤ (wrap64 ((a1.size : Int) - x7_2))
                  · rw [if_pos c32] at H
                    have c32b0 := eq_true c32
                    have c32b1 : decide (x6_5 ≤ (wrap64 ((a1.size : Int) - x7_2))) = true := decide_eq_true c32
                    clear c32
                    by_cases c33 : (wrap64 ((a1.size : Int) - x7_2)) ≤ (a1.size : Int)
                    · rw [if_pos c33] at H
                      have c33b0 := eq_true c33
                      have c33b1 : decide ((wrap64 ((a1.size : Int) - x7_2)) ≤ (a1.size : Int)) = true := decide_eq_true c33
                      clear c33
                      obtain ⟨y130, hy130⟩ : ∃ y_ : List (S47), y_ = (([(⟨x6_5, wrap64 ((a0.size : Int) - x7_2), a1.extract (x6_5 : Int).toNat ((wrap64 ((a1.size : Int) - x7_2)) : Int).toNat⟩ : S47)] : List (S47))) := ⟨_, rfl⟩
                      replace H : (some (y130, 0)) = some (r1, r2) := by first | (rw [hy130]; with_reducible exact H) | (have H2_ := (Option.bind_some _ _).symm.trans H; rw [hy130]; with_reducible exact H2_) | (have H2_ := (Option.bind_some _ _).symm.trans H; with_reducible exact H2_) | with_reducible exact H | (rw [hy130]; exact H) | exact H
                      have Ny130 := Aside0.mk hy130
                      clear hy130
                      simp only [Option.some.injEq, Prod.mk.injEq] at H
                      obtain ⟨rfl, rfl⟩ := H
                      go_wp2_with (first | ((with_reducible refine gate_dst (N := 76) rfl ?_); (try (refine gate_guard (by rfl) ?_; dsimp only)); refine Kd.R_lit k47 _ 47 ?hg (N := 76) ?hd (xs := ([(⟨x6_5, wrap64 ((a0.size : Int) - x7_2), a1.extract (x6_5 : Int).toNat ((wrap64 ((a1.size : Int) - x7_2)) : Int).toNat⟩ : S47)] : List (S47))) (inner := [.int .i64 x6_5, .int .i64 (wrap64 ((a0.size : Int) - x7_2)), .string (a1.extract (x6_5 : Int).toNat ((wrap64 ((a1.size : Int) - x7_2)) : Int).toNat)]) (ok := fun _ => True) (okp := fun _ => True) ?hr ?hp (fun _ hk => hk) trivial (Below.refl _ _) (Nat.le_refl _) (by simp) ?_; (case hd => rfl); (case hg => rfl); (case hr => first | (go_simp; done) | (go_simp; rfl)); (case hp => exact (Reps.c3 (show Kd.M k47 _ _ _ (⟨x6_5, wrap64 ((a0.size : Int) - x7_2), a1.extract (x6_5 : Int).toNat ((wrap64 ((a1.size : Int) - x7_2)) : Int).toNat⟩ : S47) [.int .i64 x6_5, .int .i64 (wrap64 ((a0.size : Int) - x7_2)), .string (a1.extract (x6_5 : Int).toNat ((wrap64 ((a1.size : Int) - x7_2)) : Int).toNat)] from (k47_mkM _ _ _ (⟨x6_5, wrap64 ((a0.size : Int) - x7_2), a1.extract (x6_5 : Int).toNat ((wrap64 ((a1.size : Int) - x7_2)) : Int).toNat⟩ : S47) )) (Reps.none _ _))); intro v131 w34 ho35 hb hg_ hnew_; clear hg_ hnew_; (first | rw [← Ny130.out] at ho35 | (simp only [Int.reduceToNat] at ho35; rw [← Ny130.out] at ho35)); have n0_ := Aside0.mk (Kd.R_lower ho35 (below_size (by repeat (first | (with_reducible first | exact HB.out | apply below_alloc | apply pw_below_drewN | apply below_drew1) | exact HB.out)))); have n1_ := Aside0.mk (below_step (by repeat (first | (with_reducible first | exact HB.out | apply below_alloc | apply pw_below_drewN | apply below_drew1) | exact HB.out)) hb); clear HB; have HO132 := n0_; have HB := n1_; clear n0_ n1_; clear hb ho35))
                      repeat (go_quiet (first | ((with_reducible refine gate_dst (N := 76) rfl ?_); (try (refine gate_guard (by rfl) ?_; dsimp only)); refine Kd.R_lit k47 _ 47 ?hg (N := 76) ?hd (xs := ([(⟨x6_5, wrap64 ((a0.size : Int) - x7_2), a1.extract (x6_5 : Int).toNat ((wrap64 ((a1.size : Int) - x7_2)) : Int).toNat⟩ : S47)] : List (S47))) (inner := [.int .i64 x6_5, .int .i64 (wrap64 ((a0.size : Int) - x7_2)), .string (a1.extract (x6_5 : Int).toNat ((wrap64 ((a1.size : Int) - x7_2)) : Int).toNat)]) (ok := fun _ => True) (okp := fun _ => True) ?hr ?hp (fun _ hk => hk) trivial (Below.refl _ _) (Nat.le_refl _) (by simp) ?_; (case hd => rfl); (case hg => rfl); (case hr => first | (go_simp; done) | (go_simp; rfl)); (case hp => exact (Reps.c3 (show Kd.M k47 _ _ _ (⟨x6_5, wrap64 ((a0.size : Int) - x7_2), a1.extract (x6_5 : Int).toNat ((wrap64 ((a1.size : Int) - x7_2)) : Int).toNat⟩ : S47) [.int .i64 x6_5, .int .i64 (wrap64 ((a0.size : Int) - x7_2)), .string (a1.extract (x6_5 : Int).toNat ((wrap64 ((a1.size : Int) - x7_2)) : Int).toNat)] from (k47_mkM _ _ _ (⟨x6_5, wrap64 ((a0.size : Int) - x7_2), a1.extract (x6_5 : Int).toNat ((wrap64 ((a1.size : Int) - x7_2)) : Int).toNat⟩ : S47) )) (Reps.none _ _))); intro v131 w34 ho35 hb hg_ hnew_; clear hg_ hnew_; (first | rw [← Ny130.out] at ho35 | (simp only [Int.reduceToNat] at ho35; rw [← Ny130.out] at ho35)); have n0_ := Aside0.mk (Kd.R_lower ho35 (below_size (by repeat (first | (with_reducible first | exact HB.out | apply below_alloc | apply pw_below_drewN | apply below_drew1) | exact HB.out)))); have n1_ := Aside0.mk (below_step (by repeat (first | (with_reducible first | exact HB.out | apply below_alloc | apply pw_below_drewN | apply below_drew1) | exact HB.out)) hb); clear HB; have HO132 := n0_; have HB := n1_; clear n0_ n1_; clear hb ho35)); try go_wp2_with (first | ((with_reducible refine gate_dst (N := 76) rfl ?_); (try (refine gate_guard (by rfl) ?_; dsimp only)); refine Kd.R_lit k47 _ 47 ?hg (N := 76) ?hd (xs := ([(⟨x6_5, wrap64 ((a0.size : Int) - x7_2), a1.extract (x6_5 : Int).toNat ((wrap64 ((a1.size : Int) - x7_2)) : Int).toNat⟩ : S47)] : List (S47))) (inner := [.int .i64 x6_5, .int .i64 (wrap64 ((a0.size : Int) - x7_2)), .string (a1.extract (x6_5 : Int).toNat ((wrap64 ((a1.size : Int) - x7_2)) : Int).toNat)]) (ok := fun _ => True) (okp := fun _ => True) ?hr ?hp (fun _ hk => hk) trivial (Below.refl _ _) (Nat.le_refl _) (by simp) ?_; (case hd => rfl); (case hg => rfl); (case hr => first | (go_simp; done) | (go_simp; rfl)); (case hp => exact (Reps.c3 (show Kd.M k47 _ _ _ (⟨x6_5, wrap64 ((a0.size : Int) - x7_2), a1.extract (x6_5 : Int).toNat ((wrap64 ((a1.size : Int) - x7_2)) : Int).toNat⟩ : S47) [.int .i64 x6_5, .int .i64 (wrap64 ((a0.size : Int) - x7_2)), .string (a1.extract (x6_5 : Int).toNat ((wrap64 ((a1.size : Int) - x7_2)) : Int).toNat)] from (k47_mkM _ _ _ (⟨x6_5, wrap64 ((a0.size : Int) - x7_2), a1.extract (x6_5 : Int).toNat ((wrap64 ((a1.size : Int) - x7_2)) : Int).toNat⟩ : S47) )) (Reps.none _ _))); intro v131 w34 ho35 hb hg_ hnew_; clear hg_ hnew_; (first | rw [← Ny130.out] at ho35 | (simp only [Int.reduceToNat] at ho35; rw [← Ny130.out] at ho35)); have n0_ := Aside0.mk (Kd.R_lower ho35 (below_size (by repeat (first | (with_reducible first | exact HB.out | apply below_alloc | apply pw_below_drewN | apply below_drew1) | exact HB.out)))); have n1_ := Aside0.mk (below_step (by repeat (first | (with_reducible first | exact HB.out | apply below_alloc | apply pw_below_drewN | apply below_drew1) | exact HB.out)) hb); clear HB; have HO132 := n0_; have HB := n1_; clear n0_ n1_; clear hb ho35)))
                      go_ret2
                      exact ⟨_, by first | rfl | (simp [errW_none, errW_some] <;> rfl) | (simp only [← hji3, ← hji15]; first | rfl | (simp [errW_none, errW_some] <;> rfl)) | (simp [*, errW_none, errW_some] <;> rfl), by (with_reducible repeat (first | apply Kd.R_alloc | apply Kd.R_drewN | apply Kd.R_drew)); exact HO132.out, by repeat (first | (with_reducible first | exact HB.out | apply below_alloc | apply pw_below_drewN | apply below_drew1) | exact HB.out)⟩
                    · rw [if_neg c33] at H
                      exact absurd H (by simp)
                  · rw [if_neg c32] at H
                    exact absurd H (by simp)
                · rw [if_neg c31] at H
                  exact absurd H (by simp)

/-! ### marginalialaw01_sample: function 46 -/
def marginalialaw01_sample.f  : Option ((List (S47))) := some (([(⟨1, 2, (⟨#[120]⟩ : ByteArray)⟩ : S47), (⟨2, 2, (⟨#[121, 122]⟩ : ByteArray)⟩ : S47)] : List (S47)))
set_option maxHeartbeats 8000000 in
set_option maxRecDepth 100000 in
theorem marginalialaw01_sample.calls  (r : List (S47)) (w : World) (h : marginalialaw01_sample.f  = some r) :
    Calls Try.prog 46 #[] w fun e w' => ∃ v0_ : Value, e = .returned (v0_) ∧ Kd.R k47 47 w' w.heap.size (fun _ => True) v0_ r ∧ Below w.heap.size w w' := by
  have hu47 := Try.underlying47
  have HB := Aside0.mk (Below.refl w.heap.size w)
  have H : (some (([(⟨1, 2, (⟨#[120]⟩ : ByteArray)⟩ : S47), (⟨2, 2, (⟨#[121, 122]⟩ : ByteArray)⟩ : S47)] : List (S47)))) = some r := h
  clear h
  obtain ⟨y133, hy133⟩ : ∃ y_ : List (S47), y_ = (([(⟨1, 2, (⟨#[120]⟩ : ByteArray)⟩ : S47), (⟨2, 2, (⟨#[121, 122]⟩ : ByteArray)⟩ : S47)] : List (S47))) := ⟨_, rfl⟩
  replace H : (some y133) = some r := by first | (rw [hy133]; with_reducible exact H) | (have H2_ := (Option.bind_some _ _).symm.trans H; rw [hy133]; with_reducible exact H2_) | (have H2_ := (Option.bind_some _ _).symm.trans H; with_reducible exact H2_) | with_reducible exact H | (rw [hy133]; exact H) | exact H
  have Ny133 := Aside0.mk hy133
  clear hy133
  obtain rfl := Option.some.inj H
  go_enter Try.func46, Try.ntmps46
  go_wp2_with (first | ((with_reducible refine gate_dst (N := 3) rfl ?_); refine Kd.R_lit k47 _ 47 ?hg (N := 3) ?hd (xs := ([(⟨1, 2, (⟨#[120]⟩ : ByteArray)⟩ : S47), (⟨2, 2, (⟨#[121, 122]⟩ : ByteArray)⟩ : S47)] : List (S47))) (inner := [.int .i64 1, .int .i64 2, .string (⟨#[120]⟩ : ByteArray), .int .i64 2, .int .i64 2, .string (⟨#[121, 122]⟩ : ByteArray)]) (ok := fun _ => True) (okp := fun _ => True) ?hr ?hp (fun _ hk => hk) trivial (Below.refl _ _) (Nat.le_refl _) (by simp) ?_; (case hd => rfl); (case hg => rfl); (case hr => first | (go_simp; done) | (go_simp; rfl)); (case hp => exact (Reps.c3 (show Kd.M k47 _ _ _ (⟨1, 2, (⟨#[120]⟩ : ByteArray)⟩ : S47) [.int .i64 1, .int .i64 2, .string (⟨#[120]⟩ : ByteArray)] from (k47_mkM _ _ _ (⟨1, 2, (⟨#[120]⟩ : ByteArray)⟩ : S47) )) (Reps.c3 (show Kd.M k47 _ _ _ (⟨2, 2, (⟨#[121, 122]⟩ : ByteArray)⟩ : S47) [.int .i64 2, .int .i64 2, .string (⟨#[121, 122]⟩ : ByteArray)] from (k47_mkM _ _ _ (⟨2, 2, (⟨#[121, 122]⟩ : ByteArray)⟩ : S47) )) (Reps.none _ _)))); intro v134 w1 ho2 hb hg_ hnew_; clear hg_ hnew_; (first | rw [← Ny133.out] at ho2 | (simp only [Int.reduceToNat] at ho2; rw [← Ny133.out] at ho2)); have n0_ := Aside0.mk (Kd.R_lower ho2 (below_size (by repeat (first | (with_reducible first | exact HB.out | apply below_alloc | apply pw_below_drewN | apply below_drew1) | exact HB.out)))); have n1_ := Aside0.mk (below_step (by repeat (first | (with_reducible first | exact HB.out | apply below_alloc | apply pw_below_drewN | apply below_drew1) | exact HB.out)) hb); clear HB; have HO135 := n0_; have HB := n1_; clear n0_ n1_; clear hb ho2))
  go_ret
  exact ⟨_, by first | rfl | (simp [errW_none, errW_some] <;> rfl) | (simp [*, errW_none, errW_some] <;> rfl), by (with_reducible repeat (first | apply Kd.R_alloc | apply Kd.R_drewN | apply Kd.R_drew)); exact HO135.out, by repeat (first | (with_reducible first | exact HB.out | apply below_alloc | apply pw_below_drewN | apply below_drew1) | exact HB.out)⟩

end Go.Proofs.Ytfllpoonfhiipaa.P
