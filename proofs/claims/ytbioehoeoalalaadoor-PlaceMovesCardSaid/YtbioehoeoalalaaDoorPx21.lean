-- printed by xprint (a program of this session)
import Derived.Test.YtbioehoeoalalaaDoorPx0
import Derived.Test.YtbioehoeoalalaaDoorPx11
import Derived.Test.YtbioehoeoalalaaDoorPx12
namespace Go.Proofs.YtbioehoeoalalaaDoor.P
open Go.RowKit Go.Proofs.YtbioehoeoalalaaDoorW.PrintWords Go.Proofs.YtbioehoeoalalaaDoorW.PrintLast Go.Proofs.YtbioehoeoalalaaDoorW.PrintMore
attribute [local go_sem] max2_int min2_int max_two min_two max_three min_three max_four min_four   -- for this text's walks alone
set_option linter.unusedVariables false
set_option linter.unusedSimpArgs false

/-! ### marginaliaref01_Apply: function 40 -/
def marginaliaref01_Apply.l0 : Nat → ByteArray → List (S73) → ByteArray → Int → Int → Option (ByteArray)
  | 0, _, _, _, _, _ => none
  | k + 1, x0, x1, x5, x6, x7 => if x7 < (x1.length : Int) then (if 0 ≤ x7 then (if 0 ≤ x6 then (if x6 ≤ ((rd_T73 x1 x7).f0) then (if ((rd_T73 x1 x7).f0) ≤ (x0.size : Int) then (if x5.size + (x0.extract (x6 : Int).toNat (((rd_T73 x1 x7).f0) : Int).toNat).size ≤ 9223372036854775807 then (if (x5 ++ (x0.extract (x6 : Int).toNat (((rd_T73 x1 x7).f0) : Int).toNat)).size + ((rd_T73 x1 x7).f2).size ≤ 9223372036854775807 then (marginaliaref01_Apply.l0 k x0 x1 ((x5 ++ (x0.extract (x6 : Int).toNat (((rd_T73 x1 x7).f0) : Int).toNat)) ++ ((rd_T73 x1 x7).f2)) ((rd_T73 x1 x7).f1) (wrap64 (x7 + 1))) else (none)) else (none)) else (none)) else (none)) else (none)) else (none)) else (if 0 ≤ x6 then (if x6 ≤ (x0.size : Int) then (if x5.size + (x0.extract (x6 : Int).toNat x0.size).size ≤ 9223372036854775807 then (some (x5 ++ (x0.extract (x6 : Int).toNat x0.size))) else (none)) else (none)) else (none))
def marginaliaref01_Apply.f (k : Nat) (a0 : ByteArray) (l1 : List (S73)) : Option (ByteArray) := marginaliaref01_Apply.l0 k a0 l1 (⟨#[]⟩ : ByteArray) 0 0
theorem marginaliaref01_Apply.mono_l : ∀ k, (∀ y0 y1 y2 y3 y4, LeO (marginaliaref01_Apply.l0 k y0 y1 y2 y3 y4) (marginaliaref01_Apply.l0 (k + 1) y0 y1 y2 y3 y4))
  | 0 => fun _ _ _ _ _ r h => by simp [marginaliaref01_Apply.l0] at h
  | k + 1 => by
    have ih0 := marginaliaref01_Apply.mono_l k
    · intro y0 y1 y2 y3 y4
      unfold marginaliaref01_Apply.l0
      repeat' first
      | (with_reducible exact ih0 _ _ _ _ _)
      | (with_reducible exact LeO.refl _)
      | (with_reducible exact LeO.none _)
      | (with_reducible refine LeO.ite ?_ ?_)
      | (with_reducible refine LeO.bind ?_ (fun _ => ?_))
      | exact ih0 _ _ _ _ _
      | exact LeO.none _
      | refine LeO.ite ?_ ?_
      | refine LeO.bind ?_ (fun _ => ?_)
theorem marginaliaref01_Apply.mono : ∀ a0 a1 k, LeO (marginaliaref01_Apply.f k a0 a1) (marginaliaref01_Apply.f (k + 1) a0 a1) := by
  intro a0 a1 k
  have ih0 := marginaliaref01_Apply.mono_l k
  unfold marginaliaref01_Apply.f
  repeat' first
      | (with_reducible exact ih0 _ _ _ _ _)
      | (with_reducible exact LeO.refl _)
      | (with_reducible exact LeO.none _)
      | (with_reducible refine LeO.ite ?_ ?_)
      | (with_reducible refine LeO.bind ?_ (fun _ => ?_))
      | exact ih0 _ _ _ _ _
      | exact LeO.none _
      | refine LeO.ite ?_ ?_
      | refine LeO.bind ?_ (fun _ => ?_)
set_option maxHeartbeats 8000000 in
set_option maxRecDepth 100000 in
theorem marginaliaref01_Apply.calls (k : Nat) (a0 : ByteArray) (A1 : Option Addr) (c1 : Nat) (l1 : List (S73)) (r : ByteArray) (w : World) (hr1 : Kd.C k73 w A1 l1.length l1) (hc1 : l1.length ≤ c1) (h : marginaliaref01_Apply.f k a0 l1 = some r) :
    Calls Tryd.prog 40 #[.string a0, .slice A1 l1.length c1] w fun e w' => e = .returned (.string r) ∧ Drawn0 w w' := by
  have HR1 := Aside0.mk hr1
  have HC1 := Aside0.mk hc1
  clear hr1 hc1
  have H : (marginaliaref01_Apply.l0 k a0 l1 (⟨#[]⟩ : ByteArray) 0 0) = some r := h
  clear h
  have H' := Aside0.mk H
  clear H
  go_enter Tryd.func40, Tryd.ntmps40
  go_wp2
  repeat (go_quiet (fail); try go_wp2)
  go_loopg [5, 6, 7] k (fun kq v5 v6 v7 w' => ∃ (x5_1 : ByteArray) (x6_1 : Int) (x7_1 : Int), v5 = .string x5_1 ∧ v6 = .int .i64 x6_1 ∧ v7 = .int .i64 x7_1 ∧ Aside0 (marginaliaref01_Apply.l0 kq a0 l1 x5_1 x6_1 x7_1 = some r) ∧ Aside0 (kq ≤ k) ∧ Drawn0 w w')
  case atStart => exact ⟨((⟨#[]⟩ : ByteArray)), (0), (0), (by first | rfl | (simp; done) | (simp [*]; done)), (by first | rfl | (simp; done) | (simp [*]; done)), (by first | rfl | (simp; done) | (simp [*]; done)), H', ⟨Nat.le_refl _⟩, by repeat (first | exact Drawn0.refl _ | apply Drawn0.step)⟩
  case round =>
    clear H'
    try clear c1
    try clear p2
    obtain ⟨x5_1, x6_1, x7_1, rfl, rfl, rfl, HA, HK1, ⟨m1, rfl⟩⟩ := hrel
    cases gk with
    | zero => exact absurd HA.out (by simp [marginaliaref01_Apply.l0])
    | succ k1 =>
      have H := HA.out
      clear HA
      simp only [marginaliaref01_Apply.l0] at H
      by_cases c3 : x7_1 < (l1.length : Int)
      · rw [if_pos c3] at H
        have c3b0 : decide (x7_1 < (l1.length : Int)) = true := decide_eq_true c3
        clear c3
        by_cases c4 : 0 ≤ x7_1
        · rw [if_pos c4] at H
          have c4b0 : decide (0 ≤ x7_1) = true := decide_eq_true c4
          clear c4
          by_cases c5 : 0 ≤ x6_1
          · rw [if_pos c5] at H
            have c5b0 := eq_true c5
            have c5b1 : decide (0 ≤ x6_1) = true := decide_eq_true c5
            clear c5
            by_cases c6 : x6_1 ≤ ((rd_T73 l1 x7_1).f0)
            · rw [if_pos c6] at H
              have c6b0 := eq_true c6
              have c6b1 : decide (x6_1 ≤ ((rd_T73 l1 x7_1).f0)) = true := decide_eq_true c6
              clear c6
              by_cases c7 : ((rd_T73 l1 x7_1).f0) ≤ (a0.size : Int)
              · rw [if_pos c7] at H
                have c7b0 := eq_true c7
                have c7b1 : decide (((rd_T73 l1 x7_1).f0) ≤ (a0.size : Int)) = true := decide_eq_true c7
                clear c7
                by_cases c8 : x5_1.size + (a0.extract (x6_1 : Int).toNat (((rd_T73 l1 x7_1).f0) : Int).toNat).size ≤ 9223372036854775807
                · rw [if_pos c8] at H
                  have c8b0 := eq_true c8
                  have c8b1 : decide (x5_1.size + (a0.extract (x6_1 : Int).toNat (((rd_T73 l1 x7_1).f0) : Int).toNat).size ≤ 9223372036854775807) = true := decide_eq_true c8
                  try simp only [ByteArray.size_extract, Nat.sub_zero] at c8b1
                  try have c8b2 : (9223372036854775807 < x5_1.size + (a0.extract (x6_1 : Int).toNat (((rd_T73 l1 x7_1).f0) : Int).toNat).size) = False := eq_false (Nat.not_lt.2 c8)
                  by_cases c9 : (x5_1 ++ (a0.extract (x6_1 : Int).toNat (((rd_T73 l1 x7_1).f0) : Int).toNat)).size + ((rd_T73 l1 x7_1).f2).size ≤ 9223372036854775807
                  · rw [if_pos c9] at H
                    have c9b0 := eq_true c9
                    have c9b1 : decide ((x5_1 ++ (a0.extract (x6_1 : Int).toNat (((rd_T73 l1 x7_1).f0) : Int).toNat)).size + ((rd_T73 l1 x7_1).f2).size ≤ 9223372036854775807) = true := decide_eq_true c9
                    try simp only [ByteArray.size_extract, Nat.sub_zero] at c9b1
                    try have c9b2 : (9223372036854775807 < (x5_1 ++ (a0.extract (x6_1 : Int).toNat (((rd_T73 l1 x7_1).f0) : Int).toNat)).size + ((rd_T73 l1 x7_1).f2).size) = False := eq_false (Nat.not_lt.2 c9)
                    have H' := Aside0.mk H
                    clear H
                    have p314 : 0 ≤ (x7_1 : Int) := of_decide_eq_true (by first | (with_reducible assumption) | assumption)
                    have q314 : x7_1 < (l1.length : Int) := of_decide_eq_true (by first | (with_reducible assumption) | assumption)
                    obtain ⟨ad314, e314, hx314_0, hx314_1, hx314_2⟩ := at_T73 HR1.out x7_1 p314 q314
                    cases e314
                    replace p314 := eq_true p314
                    replace q314 := eq_true q314
                    have p315 : 0 ≤ (x7_1 : Int) := of_decide_eq_true (by first | (with_reducible assumption) | assumption)
                    have q315 : x7_1 < (l1.length : Int) := of_decide_eq_true (by first | (with_reducible assumption) | assumption)
                    obtain ⟨ad315, e315, hx315_0, hx315_1, hx315_2⟩ := at_T73 HR1.out x7_1 p315 q315
                    obtain rfl : ad314 = ad315 := (by injection e315)
                    replace p315 := eq_true p315
                    replace q315 := eq_true q315
                    have p316 : 0 ≤ (x7_1 : Int) := of_decide_eq_true (by first | (with_reducible assumption) | assumption)
                    have q316 : x7_1 < (l1.length : Int) := of_decide_eq_true (by first | (with_reducible assumption) | assumption)
                    obtain ⟨ad316, e316, hx316_0, hx316_1, hx316_2⟩ := at_T73 HR1.out x7_1 p316 q316
                    obtain rfl : ad314 = ad316 := (by injection e316)
                    replace p316 := eq_true p316
                    replace q316 := eq_true q316
                    go_wp2
                    repeat (go_quiet (fail); try go_wp2)
                    go_roundg k1
                    case measure => have := HK1.out; omega
                    case rel => exact ⟨((x5_1 ++ (a0.extract (x6_1 : Int).toNat (((rd_T73 l1 x7_1).f0) : Int).toNat)) ++ ((rd_T73 l1 x7_1).f2)), ((rd_T73 l1 x7_1).f1), (wrap64 (x7_1 + 1)), (by first | rfl | (simp; done) | (simp [*]; done)), (by first | rfl | (simp; done) | (simp [*]; done)), (by first | rfl | (simp; done) | (simp [*]; done)), H', ⟨by have := HK1.out; omega⟩, by repeat (first | exact Drawn0.refl _ | apply Drawn0.step)⟩
                  · rw [if_neg c9] at H
                    exact absurd H (by simp)
                · rw [if_neg c8] at H
                  exact absurd H (by simp)
              · rw [if_neg c7] at H
                exact absurd H (by simp)
            · rw [if_neg c6] at H
              exact absurd H (by simp)
          · rw [if_neg c5] at H
            exact absurd H (by simp)
        · rw [if_neg c4] at H
          exact absurd H (by simp)
      · rw [if_neg c3] at H
        have c3b0 : decide (x7_1 < (l1.length : Int)) = false := decide_eq_false c3
        clear c3
        by_cases c10 : 0 ≤ x6_1
        · rw [if_pos c10] at H
          have c10b0 := eq_true c10
          have c10b1 : decide (0 ≤ x6_1) = true := decide_eq_true c10
          clear c10
          by_cases c11 : x6_1 ≤ (a0.size : Int)
          · rw [if_pos c11] at H
            have c11b0 := eq_true c11
            have c11b1 : decide (x6_1 ≤ (a0.size : Int)) = true := decide_eq_true c11
            clear c11
            by_cases c12 : x5_1.size + (a0.extract (x6_1 : Int).toNat a0.size).size ≤ 9223372036854775807
            · rw [if_pos c12] at H
              have c12b0 := eq_true c12
              have c12b1 : decide (x5_1.size + (a0.extract (x6_1 : Int).toNat a0.size).size ≤ 9223372036854775807) = true := decide_eq_true c12
              try simp only [ByteArray.size_extract, Nat.sub_zero] at c12b1
              try have c12b2 : (9223372036854775807 < x5_1.size + (a0.extract (x6_1 : Int).toNat a0.size).size) = False := eq_false (Nat.not_lt.2 c12)
              obtain rfl := Option.some.inj H
              go_wp2
              repeat (go_quiet (fail); try go_wp2)
              go_ret
              exact ⟨by first | rfl | (simp; done) | (simp [*]; done), by repeat (first | exact Drawn0.refl _ | apply Drawn0.step)⟩
            · rw [if_neg c12] at H
              exact absurd H (by simp)
          · rw [if_neg c11] at H
            exact absurd H (by simp)
        · rw [if_neg c10] at H
          exact absurd H (by simp)

/-! ### marginaliaref01_Move: function 41 -/
mutual
def marginaliaref01_Move.l0 : Nat → List (S73) → Int → Bool → Int → Int → Option (Int)
  | 0, _, _, _, _, _ => none
  | k + 1, x0, x1, x2, x7, x8 => if x8 < (x0.length : Int) then (if 0 ≤ x8 then (if ((rd_T73 x0 x8).f0) < x1 then (marginaliaref01_Move.j1 k x0 x1 x2 x7 x8 (decide (x1 < ((rd_T73 x0 x8).f1))) ((rd_T73 x0 x8).f0) ((rd_T73 x0 x8).f1) ((rd_T73 x0 x8).f2)) else (marginaliaref01_Move.j1 k x0 x1 x2 x7 x8 false ((rd_T73 x0 x8).f0) ((rd_T73 x0 x8).f1) ((rd_T73 x0 x8).f2))) else (none)) else (some (wrap64 (x1 + x7)))
def marginaliaref01_Move.j1 : Nat → List (S73) → Int → Bool → Int → Int → Bool → Int → Int → ByteArray → Option (Int)
  | 0, _, _, _, _, _, _, _, _, _ => none
  | k + 1, x0, x1, x2, x7, x8, x20, x319000, x319001, x319002 => if x20 = true then (some (wrap64 ((wrap64 (x319000 + x7)) + (x319002.size : Int)))) else (if x319001 < x1 then (marginaliaref01_Move.l0 k x0 x1 x2 (wrap64 (x7 + (wrap64 ((x319002.size : Int) - (wrap64 (x319001 - x319000)))))) (wrap64 (x8 + 1))) else (if x319001 = x1 then (if x319000 < x1 then (marginaliaref01_Move.l0 k x0 x1 x2 (wrap64 (x7 + (wrap64 ((x319002.size : Int) - (wrap64 (x319001 - x319000)))))) (wrap64 (x8 + 1))) else (if x319000 = x1 then (if x2 = true then (marginaliaref01_Move.l0 k x0 x1 x2 (wrap64 (x7 + (wrap64 ((x319002.size : Int) - (wrap64 (x319001 - x319000)))))) (wrap64 (x8 + 1))) else (marginaliaref01_Move.l0 k x0 x1 x2 x7 (wrap64 (x8 + 1)))) else (marginaliaref01_Move.l0 k x0 x1 x2 x7 (wrap64 (x8 + 1))))) else (if x319000 = x1 then (marginaliaref01_Move.l0 k x0 x1 x2 x7 (wrap64 (x8 + 1))) else (marginaliaref01_Move.l0 k x0 x1 x2 x7 (wrap64 (x8 + 1))))))
end
def marginaliaref01_Move.f (k : Nat) (l0 : List (S73)) (a1 : Int) (a2 : Bool) : Option (Int) := marginaliaref01_Move.l0 k l0 a1 a2 0 0
theorem marginaliaref01_Move.mono_l : ∀ k, (∀ y0 y1 y2 y3 y4, LeO (marginaliaref01_Move.l0 k y0 y1 y2 y3 y4) (marginaliaref01_Move.l0 (k + 1) y0 y1 y2 y3 y4)) ∧ (∀ y0 y1 y2 y3 y4 y5 y6 y7 y8, LeO (marginaliaref01_Move.j1 k y0 y1 y2 y3 y4 y5 y6 y7 y8) (marginaliaref01_Move.j1 (k + 1) y0 y1 y2 y3 y4 y5 y6 y7 y8))
  | 0 => ⟨fun _ _ _ _ _ r h => by simp [marginaliaref01_Move.l0] at h, fun _ _ _ _ _ _ _ _ _ r h => by simp [marginaliaref01_Move.j1] at h⟩
  | k + 1 => by
    obtain ⟨ih0, ih1⟩ := marginaliaref01_Move.mono_l k
    refine ⟨?_, ?_⟩
    · intro y0 y1 y2 y3 y4
      unfold marginaliaref01_Move.l0
      repeat' first
      | (with_reducible exact ih0 _ _ _ _ _)
      | (with_reducible exact ih1 _ _ _ _ _ _ _ _ _)
      | (with_reducible exact LeO.refl _)
      | (with_reducible exact LeO.none _)
      | (with_reducible refine LeO.ite ?_ ?_)
      | (with_reducible refine LeO.bind ?_ (fun _ => ?_))
      | exact ih0 _ _ _ _ _
      | exact ih1 _ _ _ _ _ _ _ _ _
      | exact LeO.none _
      | refine LeO.ite ?_ ?_
      | refine LeO.bind ?_ (fun _ => ?_)
    · intro y0 y1 y2 y3 y4 y5 y6 y7 y8
      unfold marginaliaref01_Move.j1
      repeat' first
      | (with_reducible exact ih0 _ _ _ _ _)
      | (with_reducible exact ih1 _ _ _ _ _ _ _ _ _)
      | (with_reducible exact LeO.refl _)
      | (with_reducible exact LeO.none _)
      | (with_reducible refine LeO.ite ?_ ?_)
      | (with_reducible refine LeO.bind ?_ (fun _ => ?_))
      | exact ih0 _ _ _ _ _
      | exact ih1 _ _ _ _ _ _ _ _ _
      | exact LeO.none _
      | refine LeO.ite ?_ ?_
      | refine LeO.bind ?_ (fun _ => ?_)
theorem marginaliaref01_Move.mono : ∀ a0 a1 a2 k, LeO (marginaliaref01_Move.f k a0 a1 a2) (marginaliaref01_Move.f (k + 1) a0 a1 a2) := by
  intro a0 a1 a2 k
  obtain ⟨ih0, ih1⟩ := marginaliaref01_Move.mono_l k
  unfold marginaliaref01_Move.f
  repeat' first
      | (with_reducible exact ih0 _ _ _ _ _)
      | (with_reducible exact ih1 _ _ _ _ _ _ _ _ _)
      | (with_reducible exact LeO.refl _)
      | (with_reducible exact LeO.none _)
      | (with_reducible refine LeO.ite ?_ ?_)
      | (with_reducible refine LeO.bind ?_ (fun _ => ?_))
      | exact ih0 _ _ _ _ _
      | exact ih1 _ _ _ _ _ _ _ _ _
      | exact LeO.none _
      | refine LeO.ite ?_ ?_
      | refine LeO.bind ?_ (fun _ => ?_)
set_option maxHeartbeats 8000000 in
set_option maxRecDepth 100000 in
theorem marginaliaref01_Move.calls (k : Nat) (A0 : Option Addr) (c0 : Nat) (l0 : List (S73)) (a1 : Int) (a2 : Bool) (r : Int) (w : World) (hr0 : Kd.C k73 w A0 l0.length l0) (hc0 : l0.length ≤ c0) (h : marginaliaref01_Move.f k l0 a1 a2 = some r) :
    Calls Tryd.prog 41 #[.slice A0 l0.length c0, .int .i64 a1, .bool a2] w fun e w' => e = .returned (.int .i64 r) ∧ Below w.heap.size w w' := by
  have hu73 := Tryd.underlying73
  have HR0 := Aside0.mk hr0
  have HC0 := Aside0.mk hc0
  clear hr0 hc0
  have HB := Aside0.mk (Below.refl w.heap.size w)
  have H : (marginaliaref01_Move.l0 k l0 a1 a2 0 0) = some r := h
  clear h
  have H' := Aside0.mk H
  clear H
  go_enter Tryd.func41, Tryd.ntmps41
  go_wp2
  go_loopg [7, 8] k (fun kq v7 v8 w' => ∃ (x7_1 : Int) (x8_1 : Int), v7 = .int .i64 x7_1 ∧ v8 = .int .i64 x8_1 ∧ Aside0 (marginaliaref01_Move.l0 kq l0 a1 a2 x7_1 x8_1 = some r) ∧ Aside0 (kq ≤ k) ∧ Aside0 (Below w.heap.size w w'))
  case atStart => exact ⟨(0), (0), (by first | rfl | (simp; done) | (simp [*]; done)), (by first | rfl | (simp; done) | (simp [*]; done)), H', ⟨Nat.le_refl _⟩, ⟨by repeat (first | (with_reducible first | exact HB.out | apply below_alloc | apply pw_below_drewN | apply below_drew1) | exact HB.out)⟩⟩
  case round =>
    clear H'
    try clear p2
    obtain ⟨x7_1, x8_1, rfl, rfl, HA, HK1, HB⟩ := hrel
    cases gk with
    | zero => exact absurd HA.out (by simp [marginaliaref01_Move.l0])
    | succ k1 =>
      have H := HA.out
      clear HA
      simp only [marginaliaref01_Move.l0] at H
      by_cases c4 : x8_1 < (l0.length : Int)
      · rw [if_pos c4] at H
        have c4b0 : decide (x8_1 < (l0.length : Int)) = true := decide_eq_true c4
        clear c4
        by_cases c5 : 0 ≤ x8_1
        · rw [if_pos c5] at H
          have c5b0 : decide (0 ≤ x8_1) = true := decide_eq_true c5
          clear c5
          have HC6 := Aside0.mk H
          clear H
          have p317 : 0 ≤ (x8_1 : Int) := of_decide_eq_true (by first | (with_reducible assumption) | assumption)
          have q317 : x8_1 < (l0.length : Int) := of_decide_eq_true (by first | (with_reducible assumption) | assumption)
          obtain ⟨ad317, e317, hx317_0, hx317_1, hx317_2⟩ := at_T73 HR0.out x8_1 p317 q317
          cases e317
          replace hx317_0 := (HB.out.cell (World.block_lt_of_cell? w _ hx317_0)).trans hx317_0
          replace hx317_1 := (HB.out.cell (World.block_lt_of_cell? w _ hx317_1)).trans hx317_1
          replace hx317_2 := (HB.out.cell (World.block_lt_of_cell? w _ hx317_2)).trans hx317_2
          replace p317 := eq_true p317
          replace q317 := eq_true q317
          go_upto_region 6 with (first | ((with_reducible refine gate_dst (N := 9) rfl ?_); refine box_event ?hg (N := 9) ?hd (cs := #[.int .i64 0, .int .i64 0, .string (⟨#[]⟩ : ByteArray)]) (t := 73) ?hr ?_; (case hd => rfl); (case hg => rfl); (case hr => first | (go_simp; done) | (go_simp; rfl)); intro gb318 hg w7 hbox hb; have n0_ := Aside0.mk (below_step (by repeat (first | (with_reducible first | exact HB.out | apply below_alloc | apply pw_below_drewN | apply below_drew1) | exact HB.out)) hb); have n1_ := Aside0.mk (hbox); have n2_ := Aside0.mk ((by rw [hg]; exact (below_size (by repeat (first | (with_reducible first | exact HB.out | apply below_alloc | apply pw_below_drewN | apply below_drew1) | exact HB.out))) : w.heap.size ≤ gb318)); have n3_ := Aside0.mk ((by rw [hg]; exact (below_size (by repeat (first | (with_reducible first | exact HB.out | apply below_alloc | apply pw_below_drewN | apply below_drew1) | exact HB.out))) : w.heap.size ≤ gb318)); clear HB; have HB := n0_; have BK318 := n1_; have GW318 := n2_; have GE318 := n3_; clear n0_ n1_ n2_ n3_; clear hb hbox hg; have hcz8_0 : w7.cell? ⟨gb318, 0, none⟩ = some (.int .i64 0) := (blk_cell BK318.out 0).trans rfl; have hcz8_1 : w7.cell? ⟨gb318, 1, none⟩ = some (.int .i64 0) := (blk_cell BK318.out 1).trans rfl; have hcz8_2 : w7.cell? ⟨gb318, 2, none⟩ = some (.string (⟨#[]⟩ : ByteArray)) := (blk_cell BK318.out 2).trans rfl; have hfz8_0 := blk_frozen BK318.out 0; have hfz8_1 := blk_frozen BK318.out 1; have hfz8_2 := blk_frozen BK318.out 2))
          (try simp only [Act.put, List.setIfInBounds_toArray, List.set_cons_zero, List.set_cons_succ])
          go_cut [20] (fun v20 wc => ∃ (kq : Nat) (x20_5 : Bool), v20 = .bool x20_5 ∧ Aside0 (marginaliaref01_Move.j1 kq l0 a1 a2 x7_1 x8_1 x20_5 ((rd_T73 l0 x8_1).f0) ((rd_T73 l0 x8_1).f1) ((rd_T73 l0 x8_1).f2) = some r) ∧ Aside0 (kq ≤ k1) ∧ Aside0 (wc.heap[gb318]? = some (.cells #[.int .i64 ((rd_T73 l0 x8_1).f0), .int .i64 ((rd_T73 l0 x8_1).f1), .string ((rd_T73 l0 x8_1).f2)] 73 (0, 0))) ∧ Aside0 (Below w.heap.size w wc))
          case first =>
            have H := HC6.out
            clear HC6
            by_cases c9 : ((rd_T73 l0 x8_1).f0) < a1
            · rw [if_pos c9] at H
              have c9b0 : decide (((rd_T73 l0 x8_1).f0) < a1) = true := decide_eq_true c9
              clear c9
              (first | rw [c9b0] | (simp only [i64_w, i32_w]; rw [c9b0]) | skip)
              have H' := Aside0.mk H
              clear H
              have hcz10_0 : w7.cell? ⟨gb318, 0, none⟩ = some (.int .i64 0) := (blk_cell BK318.out 0).trans rfl
              have hcz10_1 : w7.cell? ⟨gb318, 1, none⟩ = some (.int .i64 0) := (blk_cell BK318.out 1).trans rfl
              have hcz10_2 : w7.cell? ⟨gb318, 2, none⟩ = some (.string (⟨#[]⟩ : ByteArray)) := (blk_cell BK318.out 2).trans rfl
              have hfz10_0 := blk_frozen BK318.out 0
              have hfz10_1 := blk_frozen BK318.out 1
              have hfz10_2 := blk_frozen BK318.out 2
              go_wp2
              go_meet
              case rel => exact ⟨_, (decide (a1 < ((rd_T73 l0 x8_1).f1))), (by first | rfl | (simp; done) | (simp [*]; done)), H', ⟨by have := HK1.out; first | omega | exact Nat.le_refl _⟩, ⟨by (with_reducible repeat (first | refine blk_drewN ?_ _ | refine blk_drew ?_ | refine blk_alloc ?_ _)); refine blk_put (cs := #[.int .i64 ((rd_T73 l0 x8_1).f0), .int .i64 ((rd_T73 l0 x8_1).f1), .string (⟨#[]⟩ : ByteArray)]) ?_ 2 _ rfl; (with_reducible repeat (first | refine blk_drewN ?_ _ | refine blk_drew ?_ | refine blk_alloc ?_ _)); refine blk_put (cs := #[.int .i64 ((rd_T73 l0 x8_1).f0), .int .i64 0, .string (⟨#[]⟩ : ByteArray)]) ?_ 1 _ rfl; (with_reducible repeat (first | refine blk_drewN ?_ _ | refine blk_drew ?_ | refine blk_alloc ?_ _)); refine blk_put (cs := #[.int .i64 0, .int .i64 0, .string (⟨#[]⟩ : ByteArray)]) ?_ 0 _ rfl; (with_reducible repeat (first | refine blk_drewN ?_ _ | refine blk_drew ?_ | refine blk_alloc ?_ _)); exact BK318.out⟩, ⟨by repeat (first | (with_reducible first | exact HB.out | apply below_alloc | apply pw_below_drewN | apply below_drew1 | refine below_set ?_ GE318.out) | exact HB.out)⟩⟩
            · rw [if_neg c9] at H
              have c9b0 : decide (((rd_T73 l0 x8_1).f0) < a1) = false := decide_eq_false c9
              clear c9
              (first | rw [c9b0] | (simp only [i64_w, i32_w]; rw [c9b0]) | skip)
              have H' := Aside0.mk H
              clear H
              have hcz11_0 : w7.cell? ⟨gb318, 0, none⟩ = some (.int .i64 0) := (blk_cell BK318.out 0).trans rfl
              have hcz11_1 : w7.cell? ⟨gb318, 1, none⟩ = some (.int .i64 0) := (blk_cell BK318.out 1).trans rfl
              have hcz11_2 : w7.cell? ⟨gb318, 2, none⟩ = some (.string (⟨#[]⟩ : ByteArray)) := (blk_cell BK318.out 2).trans rfl
              have hfz11_0 := blk_frozen BK318.out 0
              have hfz11_1 := blk_frozen BK318.out 1
              have hfz11_2 := blk_frozen BK318.out 2
              go_wp2
              go_meet
              case rel => exact ⟨_, (false), (by first | rfl | (simp; done) | (simp [*]; done)), H', ⟨by have := HK1.out; first | omega | exact Nat.le_refl _⟩, ⟨by (with_reducible repeat (first | refine blk_drewN ?_ _ | refine blk_drew ?_ | refine blk_alloc ?_ _)); refine blk_put (cs := #[.int .i64 ((rd_T73 l0 x8_1).f0), .int .i64 ((rd_T73 l0 x8_1).f1), .string (⟨#[]⟩ : ByteArray)]) ?_ 2 _ rfl; (with_reducible repeat (first | refine blk_drewN ?_ _ | refine blk_drew ?_ | refine blk_alloc ?_ _)); refine blk_put (cs := #[.int .i64 ((rd_T73 l0 x8_1).f0), .int .i64 0, .string (⟨#[]⟩ : ByteArray)]) ?_ 1 _ rfl; (with_reducible repeat (first | refine blk_drewN ?_ _ | refine blk_drew ?_ | refine blk_alloc ?_ _)); refine blk_put (cs := #[.int .i64 0, .int .i64 0, .string (⟨#[]⟩ : ByteArray)]) ?_ 0 _ rfl; (with_reducible repeat (first | refine blk_drewN ?_ _ | refine blk_drew ?_ | refine blk_alloc ?_ _)); exact BK318.out⟩, ⟨by repeat (first | (with_reducible first | exact HB.out | apply below_alloc | apply pw_below_drewN | apply below_drew1 | refine below_set ?_ GE318.out) | exact HB.out)⟩⟩
          case rest =>
            clear HC6
            try clear p2
            try clear p3
            try clear q3
            try clear hx3
            try clear c4
            try clear c4b0
            try clear c5
            try clear c5b0
            try clear c9
            try clear c9b0
            try clear hcz10_0
            try clear hcz10_1
            try clear hcz10_2
            try clear hcz11_0
            try clear hcz11_1
            try clear hcz11_2
            try clear hcz8_0
            try clear hcz8_1
            try clear hcz8_2
            try clear hfz10_0
            try clear hfz10_1
            try clear hfz10_2
            try clear hfz11_0
            try clear hfz11_1
            try clear hfz11_2
            try clear hfz8_0
            try clear hfz8_1
            try clear hfz8_2
            try clear hx317_0
            try clear hx317_1
            try clear hx317_2
            try clear p2
            try clear p317
            try clear q317
            obtain ⟨kq, x20_5, rfl, HA, HJ5, BK318, HB⟩ := hcut
            cases kq with
            | zero => exact absurd HA.out (by simp [marginaliaref01_Move.j1])
            | succ kj5 =>
              have H := HA.out
              clear HA
              simp only [marginaliaref01_Move.j1] at H
              by_cases c12 : x20_5 = true
              · subst c12
                have H1 : (some (wrap64 ((wrap64 (((rd_T73 l0 x8_1).f0) + x7_1)) + (((rd_T73 l0 x8_1).f2).size : Int)))) = some r := by rw [if_pos rfl] at H; exact H
                clear H
                have H := H1
                clear H1
                obtain rfl := Option.some.inj H
                have hcz13_0 : wc.cell? ⟨gb318, 0, none⟩ = some (.int .i64 ((rd_T73 l0 x8_1).f0)) := (blk_cell BK318.out 0).trans rfl
                have hcz13_1 : wc.cell? ⟨gb318, 1, none⟩ = some (.int .i64 ((rd_T73 l0 x8_1).f1)) := (blk_cell BK318.out 1).trans rfl
                have hcz13_2 : wc.cell? ⟨gb318, 2, none⟩ = some (.string ((rd_T73 l0 x8_1).f2)) := (blk_cell BK318.out 2).trans rfl
                have hfz13_0 := blk_frozen BK318.out 0
                have hfz13_1 := blk_frozen BK318.out 1
                have hfz13_2 := blk_frozen BK318.out 2
                go_wp2
                go_ret
                exact ⟨by first | rfl | (simp [errW_none, errW_some] <;> rfl) | (simp [*, errW_none, errW_some] <;> rfl), by repeat (first | (with_reducible first | exact HB.out | apply below_alloc | apply pw_below_drewN | apply below_drew1 | refine below_set ?_ GE318.out) | exact HB.out)⟩
              · replace c12 := Bool.eq_false_iff.mpr c12
                subst c12
                have H1 : (if ((rd_T73 l0 x8_1).f1) < a1 then (marginaliaref01_Move.l0 kj5 l0 a1 a2 (wrap64 (x7_1 + (wrap64 ((((rd_T73 l0 x8_1).f2).size : Int) - (wrap64 (((rd_T73 l0 x8_1).f1) - ((rd_T73 l0 x8_1).f0))))))) (wrap64 (x8_1 + 1))) else (if ((rd_T73 l0 x8_1).f1) = a1 then (if ((rd_T73 l0 x8_1).f0) < a1 then (marginaliaref01_Move.l0 kj5 l0 a1 a2 (wrap64 (x7_1 + (wrap64 ((((rd_T73 l0 x8_1).f2).size : Int) - (wrap64 (((rd_T73 l0 x8_1).f1) - ((rd_T73 l0 x8_1).f0))))))) (wrap64 (x8_1 + 1))) else (if ((rd_T73 l0 x8_1).f0) = a1 then (if a2 = true then (marginaliaref01_Move.l0 kj5 l0 a1 a2 (wrap64 (x7_1 + (wrap64 ((((rd_T73 l0 x8_1).f2).size : Int) - (wrap64 (((rd_T73 l0 x8_1).f1) - ((rd_T73 l0 x8_1).f0))))))) (wrap64 (x8_1 + 1))) else (marginaliaref01_Move.l0 kj5 l0 a1 a2 x7_1 (wrap64 (x8_1 + 1)))) else (marginaliaref01_Move.l0 kj5 l0 a1 a2 x7_1 (wrap64 (x8_1 + 1))))) else (if ((rd_T73 l0 x8_1).f0) = a1 then (marginaliaref01_Move.l0 kj5 l0 a1 a2 x7_1 (wrap64 (x8_1 + 1))) else (marginaliaref01_Move.l0 kj5 l0 a1 a2 x7_1 (wrap64 (x8_1 + 1)))))) = some r := by rw [if_neg (show ¬ (false = true) by decide)] at H; exact H
                clear H
                have H := H1
                clear H1
                by_cases c14 : ((rd_T73 l0 x8_1).f1) < a1
                · rw [if_pos c14] at H
                  have c14b0 : decide (((rd_T73 l0 x8_1).f1) < a1) = true := decide_eq_true c14
                  clear c14
                  have H' := Aside0.mk H
                  clear H
                  have hcz15_0 : wc.cell? ⟨gb318, 0, none⟩ = some (.int .i64 ((rd_T73 l0 x8_1).f0)) := (blk_cell BK318.out 0).trans rfl
                  have hcz15_1 : wc.cell? ⟨gb318, 1, none⟩ = some (.int .i64 ((rd_T73 l0 x8_1).f1)) := (blk_cell BK318.out 1).trans rfl
                  have hcz15_2 : wc.cell? ⟨gb318, 2, none⟩ = some (.string ((rd_T73 l0 x8_1).f2)) := (blk_cell BK318.out 2).trans rfl
                  have hfz15_0 := blk_frozen BK318.out 0
                  have hfz15_1 := blk_frozen BK318.out 1
                  have hfz15_2 := blk_frozen BK318.out 2
                  go_wp2
                  go_roundg kj5
                  case measure => have := HK1.out; have := HJ5.out; omega
                  case rel => exact ⟨(wrap64 (x7_1 + (wrap64 ((((rd_T73 l0 x8_1).f2).size : Int) - (wrap64 (((rd_T73 l0 x8_1).f1) - ((rd_T73 l0 x8_1).f0))))))), (wrap64 (x8_1 + 1)), (by first | rfl | (simp; done) | (simp [*]; done)), (by first | rfl | (simp; done) | (simp [*]; done)), H', ⟨by have := HK1.out; have := HJ5.out; omega⟩, ⟨by repeat (first | (with_reducible first | exact HB.out | apply below_alloc | apply pw_below_drewN | apply below_drew1 | refine below_set ?_ GE318.out) | exact HB.out)⟩⟩
                · rw [if_neg c14] at H
                  have c14b0 : decide (((rd_T73 l0 x8_1).f1) < a1) = false := decide_eq_false c14
                  clear c14
                  by_cases c16 : ((rd_T73 l0 x8_1).f1) = a1
                  · rw [if_pos c16] at H
                    have c16b0 : (((rd_T73 l0 x8_1).f1) == a1) = true := beq_iff_eq.mpr c16
                    have c16b1 : (((rd_T73 l0 x8_1).f1) != a1) = false := bne_eq_false_iff_eq.mpr c16
                    clear c16
                    by_cases c17 : ((rd_T73 l0 x8_1).f0) < a1
                    · rw [if_pos c17] at H
                      have c17b0 : decide (((rd_T73 l0 x8_1).f0) < a1) = true := decide_eq_true c17
                      clear c17
                      have H' := Aside0.mk H
                      clear H
                      have hcz18_0 : wc.cell? ⟨gb318, 0, none⟩ = some (.int .i64 ((rd_T73 l0 x8_1).f0)) := (blk_cell BK318.out 0).trans rfl
                      have hcz18_1 : wc.cell? ⟨gb318, 1, none⟩ = some (.int .i64 ((rd_T73 l0 x8_1).f1)) := (blk_cell BK318.out 1).trans rfl
                      have hcz18_2 : wc.cell? ⟨gb318, 2, none⟩ = some (.string ((rd_T73 l0 x8_1).f2)) := (blk_cell BK318.out 2).trans rfl
                      have hfz18_0 := blk_frozen BK318.out 0
                      have hfz18_1 := blk_frozen BK318.out 1
                      have hfz18_2 := blk_frozen BK318.out 2
                      go_wp2
                      go_roundg kj5
                      case measure => have := HK1.out; have := HJ5.out; omega
                      case rel => exact ⟨(wrap64 (x7_1 + (wrap64 ((((rd_T73 l0 x8_1).f2).size : Int) - (wrap64 (((rd_T73 l0 x8_1).f1) - ((rd_T73 l0 x8_1).f0))))))), (wrap64 (x8_1 + 1)), (by first | rfl | (simp; done) | (simp [*]; done)), (by first | rfl | (simp; done) | (simp [*]; done)), H', ⟨by have := HK1.out; have := HJ5.out; omega⟩, ⟨by repeat (first | (with_reducible first | exact HB.out | apply below_alloc | apply pw_below_drewN | apply below_drew1 | refine below_set ?_ GE318.out) | exact HB.out)⟩⟩
                    · rw [if_neg c17] at H
                      have c17b0 : decide (((rd_T73 l0 x8_1).f0) < a1) = false := decide_eq_false c17
                      clear c17
                      by_cases c19 : ((rd_T73 l0 x8_1).f0) = a1
                      · rw [if_pos c19] at H
                        have c19b0 : (((rd_T73 l0 x8_1).f0) == a1) = true := beq_iff_eq.mpr c19
                        have c19b1 : (((rd_T73 l0 x8_1).f0) != a1) = false := bne_eq_false_iff_eq.mpr c19
                        clear c19
                        by_cases c20 : a2 = true
                        · subst c20
                          have H1 : (marginaliaref01_Move.l0 kj5 l0 a1 true (wrap64 (x7_1 + (wrap64 ((((rd_T73 l0 x8_1).f2).size : Int) - (wrap64 (((rd_T73 l0 x8_1).f1) - ((rd_T73 l0 x8_1).f0))))))) (wrap64 (x8_1 + 1))) = some r := by rw [if_pos rfl] at H; exact H
                          clear H
                          have H := H1
                          clear H1
                          have H' := Aside0.mk H
                          clear H
                          have hcz21_0 : wc.cell? ⟨gb318, 0, none⟩ = some (.int .i64 ((rd_T73 l0 x8_1).f0)) := (blk_cell BK318.out 0).trans rfl
                          have hcz21_1 : wc.cell? ⟨gb318, 1, none⟩ = some (.int .i64 ((rd_T73 l0 x8_1).f1)) := (blk_cell BK318.out 1).trans rfl
                          have hcz21_2 : wc.cell? ⟨gb318, 2, none⟩ = some (.string ((rd_T73 l0 x8_1).f2)) := (blk_cell BK318.out 2).trans rfl
                          have hfz21_0 := blk_frozen BK318.out 0
                          have hfz21_1 := blk_frozen BK318.out 1
                          have hfz21_2 := blk_frozen BK318.out 2
                          go_wp2
                          go_roundg kj5
                          case measure => have := HK1.out; have := HJ5.out; omega
                          case rel => exact ⟨(wrap64 (x7_1 + (wrap64 ((((rd_T73 l0 x8_1).f2).size : Int) - (wrap64 (((rd_T73 l0 x8_1).f1) - ((rd_T73 l0 x8_1).f0))))))), (wrap64 (x8_1 + 1)), (by first | rfl | (simp; done) | (simp [*]; done)), (by first | rfl | (simp; done) | (simp [*]; done)), H', ⟨by have := HK1.out; have := HJ5.out; omega⟩, ⟨by repeat (first | (with_reducible first | exact HB.out | apply below_alloc | apply pw_below_drewN | apply below_drew1 | refine below_set ?_ GE318.out) | exact HB.out)⟩⟩
                        · replace c20 := Bool.eq_false_iff.mpr c20
                          subst c20
                          have H1 : (marginaliaref01_Move.l0 kj5 l0 a1 false x7_1 (wrap64 (x8_1 + 1))) = some r := by rw [if_neg (show ¬ (false = true) by decide)] at H; exact H
                          clear H
                          have H := H1
                          clear H1
                          have H' := Aside0.mk H
                          clear H
                          have hcz22_0 : wc.cell? ⟨gb318, 0, none⟩ = some (.int .i64 ((rd_T73 l0 x8_1).f0)) := (blk_cell BK318.out 0).trans rfl
                          have hcz22_1 : wc.cell? ⟨gb318, 1, none⟩ = some (.int .i64 ((rd_T73 l0 x8_1).f1)) := (blk_cell BK318.out 1).trans rfl
                          have hcz22_2 : wc.cell? ⟨gb318, 2, none⟩ = some (.string ((rd_T73 l0 x8_1).f2)) := (blk_cell BK318.out 2).trans rfl
                          have hfz22_0 := blk_frozen BK318.out 0
                          have hfz22_1 := blk_frozen BK318.out 1
                          have hfz22_2 := blk_frozen BK318.out 2
                          go_wp2
                          go_roundg kj5
                          case measure => have := HK1.out; have := HJ5.out; omega
                          case rel => exact ⟨(x7_1), (wrap64 (x8_1 + 1)), (by first | rfl | (simp; done) | (simp [*]; done)), (by first | rfl | (simp; done) | (simp [*]; done)), H', ⟨by have := HK1.out; have := HJ5.out; omega⟩, ⟨by repeat (first | (with_reducible first | exact HB.out | apply below_alloc | apply pw_below_drewN | apply below_drew1 | refine below_set ?_ GE318.out) | exact HB.out)⟩⟩
                      · rw [if_neg c19] at H
                        have c19b0 : (((rd_T73 l0 x8_1).f0) == a1) = false := beq_eq_false_iff_ne.mpr c19
                        have c19b1 : (((rd_T73 l0 x8_1).f0) != a1) = true := bne_iff_ne.mpr c19
                        have H' := Aside0.mk H
                        clear H
                        have hcz23_0 : wc.cell? ⟨gb318, 0, none⟩ = some (.int .i64 ((rd_T73 l0 x8_1).f0)) := (blk_cell BK318.out 0).trans rfl
                        have hcz23_1 : wc.cell? ⟨gb318, 1, none⟩ = some (.int .i64 ((rd_T73 l0 x8_1).f1)) := (blk_cell BK318.out 1).trans rfl
                        have hcz23_2 : wc.cell? ⟨gb318, 2, none⟩ = some (.string ((rd_T73 l0 x8_1).f2)) := (blk_cell BK318.out 2).trans rfl
                        have hfz23_0 := blk_frozen BK318.out 0
                        have hfz23_1 := blk_frozen BK318.out 1
                        have hfz23_2 := blk_frozen BK318.out 2
                        go_wp2
                        go_roundg kj5
                        case measure => have := HK1.out; have := HJ5.out; omega
                        case rel => exact ⟨(x7_1), (wrap64 (x8_1 + 1)), (by first | rfl | (simp; done) | (simp [*]; done)), (by first | rfl | (simp; done) | (simp [*]; done)), H', ⟨by have := HK1.out; have := HJ5.out; omega⟩, ⟨by repeat (first | (with_reducible first | exact HB.out | apply below_alloc | apply pw_below_drewN | apply below_drew1 | refine below_set ?_ GE318.out) | exact HB.out)⟩⟩
                  · rw [if_neg c16] at H
                    have c16b0 : (((rd_T73 l0 x8_1).f1) == a1) = false := beq_eq_false_iff_ne.mpr c16
                    have c16b1 : (((rd_T73 l0 x8_1).f1) != a1) = true := bne_iff_ne.mpr c16
                    by_cases c24 : ((rd_T73 l0 x8_1).f0) = a1
                    · rw [if_pos c24] at H
                      have c24b0 : (((rd_T73 l0 x8_1).f0) == a1) = true := beq_iff_eq.mpr c24
                      have c24b1 : (((rd_T73 l0 x8_1).f0) != a1) = false := bne_eq_false_iff_eq.mpr c24
                      clear c24
                      have H' := Aside0.mk H
                      clear H
                      have hcz25_0 : wc.cell? ⟨gb318, 0, none⟩ = some (.int .i64 ((rd_T73 l0 x8_1).f0)) := (blk_cell BK318.out 0).trans rfl
                      have hcz25_1 : wc.cell? ⟨gb318, 1, none⟩ = some (.int .i64 ((rd_T73 l0 x8_1).f1)) := (blk_cell BK318.out 1).trans rfl
                      have hcz25_2 : wc.cell? ⟨gb318, 2, none⟩ = some (.string ((rd_T73 l0 x8_1).f2)) := (blk_cell BK318.out 2).trans rfl
                      have hfz25_0 := blk_frozen BK318.out 0
                      have hfz25_1 := blk_frozen BK318.out 1
                      have hfz25_2 := blk_frozen BK318.out 2
                      go_wp2
                      go_roundg kj5
                      case measure => have := HK1.out; have := HJ5.out; omega
                      case rel => exact ⟨(x7_1), (wrap64 (x8_1 + 1)), (by first | rfl | (simp; done) | (simp [*]; done)), (by first | rfl | (simp; done) | (simp [*]; done)), H', ⟨by have := HK1.out; have := HJ5.out; omega⟩, ⟨by repeat (first | (with_reducible first | exact HB.out | apply below_alloc | apply pw_below_drewN | apply below_drew1 | refine below_set ?_ GE318.out) | exact HB.out)⟩⟩
                    · rw [if_neg c24] at H
                      have c24b0 : (((rd_T73 l0 x8_1).f0) == a1) = false := beq_eq_false_iff_ne.mpr c24
                      have c24b1 : (((rd_T73 l0 x8_1).f0) != a1) = true := bne_iff_ne.mpr c24
                      have H' := Aside0.mk H
                      clear H
                      have hcz26_0 : wc.cell? ⟨gb318, 0, none⟩ = some (.int .i64 ((rd_T73 l0 x8_1).f0)) := (blk_cell BK318.out 0).trans rfl
                      have hcz26_1 : wc.cell? ⟨gb318, 1, none⟩ = some (.int .i64 ((rd_T73 l0 x8_1).f1)) := (blk_cell BK318.out 1).trans rfl
                      have hcz26_2 : wc.cell? ⟨gb318, 2, none⟩ = some (.string ((rd_T73 l0 x8_1).f2)) := (blk_cell BK318.out 2).trans rfl
                      have hfz26_0 := blk_frozen BK318.out 0
                      have hfz26_1 := blk_frozen BK318.out 1
                      have hfz26_2 := blk_frozen BK318.out 2
                      go_wp2
                      go_roundg kj5
                      case measure => have := HK1.out; have := HJ5.out; omega
                      case rel => exact ⟨(x7_1), (wrap64 (x8_1 + 1)), (by first | rfl | (simp; done) | (simp [*]; done)), (by first | rfl | (simp; done) | (simp [*]; done)), H', ⟨by have := HK1.out; have := HJ5.out; omega⟩, ⟨by repeat (first | (with_reducible first | exact HB.out | apply below_alloc | apply pw_below_drewN | apply below_drew1 | refine below_set ?_ GE318.out) | exact HB.out)⟩⟩
        · rw [if_neg c5] at H
          exact absurd H (by simp)
      · rw [if_neg c4] at H
        have c4b0 : decide (x8_1 < (l0.length : Int)) = false := decide_eq_false c4
        clear c4
        obtain rfl := Option.some.inj H
        go_wp2
        go_ret
        exact ⟨by first | rfl | (simp [errW_none, errW_some] <;> rfl) | (simp [*, errW_none, errW_some] <;> rfl), by repeat (first | (with_reducible first | exact HB.out | apply below_alloc | apply pw_below_drewN | apply below_drew1) | exact HB.out)⟩

/-! ### marginaliaref02_Moved: function 30 -/
def marginaliaref02_Moved.l0 : Nat → ByteArray → Int → List Bool → Option (Int × Int)
  | 0, _, _, _ => none
  | k + 1, x7, x8, x9 => if 0 ≤ x8 then (if x8 < (x9.length : Int) then (if rdOf false x9 x8 = true then ((marginaliaref02_Of.f k x7 x8).bind fun bt326 => (some (bt326.1, bt326.2))) else (marginaliaref02_Moved.l0 k x7 (wrap64 (x8 - 1)) x9)) else (none)) else (none)
def marginaliaref02_Moved.f (k : Nat) (a0 : ByteArray) (a1 : Int) (l2 : List (S73)) : Option (Int × Int) := (marginaliaref01_Apply.f k a0 l2).bind fun t320 => ((marginaliaref01_Move.f k l2 a1 true).bind fun t321 => ((marginaliaref02_Begins.f k t320).bind fun t322 => (marginaliaref02_Moved.l0 k t320 t321 t322)))
theorem marginaliaref02_Moved.mono_l : ∀ k, (∀ y0 y1 y2, LeO (marginaliaref02_Moved.l0 k y0 y1 y2) (marginaliaref02_Moved.l0 (k + 1) y0 y1 y2))
  | 0 => fun _ _ _ r h => by simp [marginaliaref02_Moved.l0] at h
  | k + 1 => by
    have ih0 := marginaliaref02_Moved.mono_l k
    · intro y0 y1 y2
      unfold marginaliaref02_Moved.l0
      repeat' first
      | (with_reducible exact ih0 _ _ _)
      | (with_reducible exact marginaliaref01_Apply.mono _ _ _)
      | (with_reducible exact marginaliaref01_Move.mono _ _ _ _)
      | (with_reducible exact marginaliaref02_Begins.mono _ _)
      | (with_reducible exact marginaliaref02_Of.mono _ _ _)
      | (with_reducible exact LeO.refl _)
      | (with_reducible exact LeO.none _)
      | (with_reducible refine LeO.ite ?_ ?_)
      | (with_reducible refine LeO.bind ?_ (fun _ => ?_))
      | exact ih0 _ _ _
      | exact marginaliaref01_Apply.mono _ _ _
      | exact marginaliaref01_Move.mono _ _ _ _
      | exact marginaliaref02_Begins.mono _ _
      | exact marginaliaref02_Of.mono _ _ _
      | exact LeO.none _
      | refine LeO.ite ?_ ?_
      | refine LeO.bind ?_ (fun _ => ?_)
theorem marginaliaref02_Moved.mono : ∀ a0 a1 a2 k, LeO (marginaliaref02_Moved.f k a0 a1 a2) (marginaliaref02_Moved.f (k + 1) a0 a1 a2) := by
  intro a0 a1 a2 k
  have ih0 := marginaliaref02_Moved.mono_l k
  unfold marginaliaref02_Moved.f
  repeat' first
      | (with_reducible exact ih0 _ _ _)
      | (with_reducible exact marginaliaref01_Apply.mono _ _ _)
      | (with_reducible exact marginaliaref01_Move.mono _ _ _ _)
      | (with_reducible exact marginaliaref02_Begins.mono _ _)
      | (with_reducible exact marginaliaref02_Of.mono _ _ _)
      | (with_reducible exact LeO.refl _)
      | (with_reducible exact LeO.none _)
      | (with_reducible refine LeO.ite ?_ ?_)
      | (with_reducible refine LeO.bind ?_ (fun _ => ?_))
      | exact ih0 _ _ _
      | exact marginaliaref01_Apply.mono _ _ _
      | exact marginaliaref01_Move.mono _ _ _ _
      | exact marginaliaref02_Begins.mono _ _
      | exact marginaliaref02_Of.mono _ _ _
      | exact LeO.none _
      | refine LeO.ite ?_ ?_
      | refine LeO.bind ?_ (fun _ => ?_)
set_option maxHeartbeats 8000000 in
set_option maxRecDepth 100000 in
theorem marginaliaref02_Moved.calls (k : Nat) (a0 : ByteArray) (a1 : Int) (A2 : Option Addr) (c2 : Nat) (l2 : List (S73)) (r1 : Int) (r2 : Int) (w : World) (hr2 : Kd.C k73 w A2 l2.length l2) (hc2 : l2.length ≤ c2) (h : marginaliaref02_Moved.f k a0 a1 l2 = some (r1, r2)) :
    Calls Tryd.prog 30 #[.string a0, .int .i64 a1, .slice A2 l2.length c2] w fun e w' => e = .returned (.agg #[.int .i64 r1, .int .i64 r2]) ∧ Below w.heap.size w w' := by
  have hu23 := Tryd.underlying23
  have HR2 := Aside0.mk hr2
  have HC2 := Aside0.mk hc2
  clear hr2 hc2
  have HB := Aside0.mk (Below.refl w.heap.size w)
  have H : ((marginaliaref01_Apply.f k a0 l2).bind fun t320 => ((marginaliaref01_Move.f k l2 a1 true).bind fun t321 => ((marginaliaref02_Begins.f k t320).bind fun t322 => (marginaliaref02_Moved.l0 k t320 t321 t322)))) = some (r1, r2) := h
  clear h
  replace H := Option.bind_eq_some_iff.mp H
  obtain ⟨t320, A40, H⟩ := H
  replace H : ((marginaliaref01_Move.f k l2 a1 true).bind fun t321 => ((marginaliaref02_Begins.f k t320).bind fun t322 => (marginaliaref02_Moved.l0 k t320 t321 t322))) = some (r1, r2) := H
  have A4 := Aside0.mk A40
  clear A40
  replace H := Option.bind_eq_some_iff.mp H
  obtain ⟨t321, A50, H⟩ := H
  replace H : ((marginaliaref02_Begins.f k t320).bind fun t322 => (marginaliaref02_Moved.l0 k t320 t321 t322)) = some (r1, r2) := H
  have A5 := Aside0.mk A50
  clear A50
  replace H := Option.bind_eq_some_iff.mp H
  obtain ⟨t322, A60, H⟩ := H
  replace H : (marginaliaref02_Moved.l0 k t320 t321 t322) = some (r1, r2) := H
  have A6 := Aside0.mk A60
  clear A60
  have H' := Aside0.mk H
  clear H
  go_enter Tryd.func30, Tryd.ntmps30
  go_wp2_with (first | ((with_reducible refine gate_dst (N := 6) rfl ?_); refine box_event ?hg (N := 6) ?hd (cs := #[.int .i64 0, .int .i64 0]) (t := 23) ?hr ?_; (case hd => rfl); (case hg => rfl); (case hr => first | (go_simp; done) | (go_simp; rfl)); intro gb319 hg w7 hbox hb; have n0_ := Aside0.mk (below_step (by repeat (first | (with_reducible first | exact HB.out | apply below_alloc | apply pw_below_drewN | apply below_drew1) | exact HB.out)) hb); have n1_ := Aside0.mk (hbox); have n2_ := Aside0.mk ((by rw [hg]; exact (below_size (by repeat (first | (with_reducible first | exact HB.out | apply below_alloc | apply pw_below_drewN | apply below_drew1) | exact HB.out))) : w.heap.size ≤ gb319)); have n3_ := Aside0.mk ((by rw [hg]; exact (below_size (by repeat (first | (with_reducible first | exact HB.out | apply below_alloc | apply pw_below_drewN | apply below_drew1) | exact HB.out))) : w.heap.size ≤ gb319)); clear HB; have HB := n0_; have BK319 := n1_; have GW319 := n2_; have GE319 := n3_; clear n0_ n1_ n2_ n3_; clear hb hbox hg) | ((with_reducible refine gate_callee (f := 40) rfl ?_); refine goesL_ (some 12) rfl rfl Tryd.func40 (by kernel_rfl) rfl #[.string a0, .slice A2 l2.length c2] rfl (by (try simp only [List.map_toArray, List.map_cons, List.map_nil]); first | done | rfl | (simp only [List.length_drop, List.length_take]; rfl)) ?_; (with_reducible refine (marginaliaref01_Apply.calls k a0 _ _ l2 t320 _ ?side1 ?side2 A4.out).mono ?_); (case side1 => repeat (first | exact (Kd.C_below HR2.out HB.out) | (with_reducible refine Kd.C_alloc ?_ _) | (with_reducible refine Kd.C_drewN ?_ _) | (with_reducible refine Kd.C_drew ?_))); (case side2 => exact HC2.out); rintro e w' ⟨rfl, ⟨nd, rfl⟩⟩; refine ⟨_, rfl, ?_⟩) | ((with_reducible refine gate_callee (f := 41) rfl ?_); refine goesL_ (some 15) rfl rfl Tryd.func41 (by kernel_rfl) rfl #[.slice A2 l2.length c2, .int .i64 a1, .bool true] rfl (by (try simp only [List.map_toArray, List.map_cons, List.map_nil]); first | done | rfl | (simp only [List.length_drop, List.length_take]; rfl)) ?_; (with_reducible refine (marginaliaref01_Move.calls k _ _ l2 a1 true t321 _ ?side1 ?side2 A5.out).mono ?_); (case side1 => repeat (first | exact (Kd.C_below HR2.out (by repeat (first | (with_reducible first | exact HB.out | apply below_alloc | apply pw_below_drewN | apply below_drew1 | refine below_set ?_ GE319.out) | exact HB.out))) | (with_reducible refine Kd.C_alloc ?_ _) | (with_reducible refine Kd.C_drewN ?_ _) | (with_reducible refine Kd.C_drew ?_))); (case side2 => exact HC2.out); rintro e w8 ⟨rfl, hb⟩; refine ⟨_, rfl, ?_⟩; have n0_ := Aside0.mk (blk_below (g := gb319) (o := .cells #[.int .i64 0, .int .i64 0] 23 (0, 0)) (by (with_reducible repeat (first | refine blk_drewN ?_ _ | refine blk_drew ?_ | refine blk_alloc ?_ _)); exact BK319.out) hb); have n1_ := Aside0.mk (below_step (by repeat (first | (with_reducible first | exact HB.out | apply below_alloc | apply pw_below_drewN | apply below_drew1 | refine below_set ?_ GE319.out) | exact HB.out)) hb); clear BK319; clear HB; have BK319 := n0_; have HB := n1_; clear n0_ n1_; (try clear hb); (try clear hb2); (try clear hk); (try clear hi)) | ((with_reducible refine gate_callee (f := 15) rfl ?_); refine goesL_ (some 17) rfl rfl Tryd.func15 (by kernel_rfl) rfl #[.string t320] rfl (by (try simp only [List.map_toArray, List.map_cons, List.map_nil]); first | done | rfl | (simp only [List.length_drop, List.length_take]; rfl)) ?_; (with_reducible refine (marginaliaref02_Begins.calls k t320 t322 _ A6.out).mono ?_); rintro e w9 ⟨v323, rfl, ho0, hb⟩; refine ⟨_, rfl, ?_⟩; have n0_ := Aside0.mk (Kd.R_lower ho0 (below_size (by repeat (first | (with_reducible first | exact HB.out | apply below_alloc | apply pw_below_drewN | apply below_drew1 | refine below_set ?_ GE319.out) | exact HB.out)))); have n1_ := Aside0.mk (blk_below (g := gb319) (o := .cells #[.int .i64 0, .int .i64 0] 23 (0, 0)) (by (with_reducible repeat (first | refine blk_drewN ?_ _ | refine blk_drew ?_ | refine blk_alloc ?_ _)); exact BK319.out) hb); have n2_ := Aside0.mk (below_step (by repeat (first | (with_reducible first | exact HB.out | apply below_alloc | apply pw_below_drewN | apply below_drew1 | refine below_set ?_ GE319.out) | exact HB.out)) hb); clear BK319; clear HB; have HO324 := n0_; have BK319 := n1_; have HB := n2_; clear n0_ n1_ n2_; (try clear hb); (try clear hb2); (try clear hk); (try clear hi); (try clear ho0)))
  go_loopg [8] k (fun kq v8 w' => ∃ (x8_1 : Int), v8 = .int .i64 x8_1 ∧ Aside0 (marginaliaref02_Moved.l0 kq t320 x8_1 t322 = some (r1, r2)) ∧ Aside0 (kq ≤ k) ∧ Aside0 (Kd.R Kd.bool 4 w' w.heap.size (fun _ => True) v323 t322) ∧ Aside0 (w'.heap[gb319]? = some (.cells #[.int .i64 0, .int .i64 0] 23 (0, 0))) ∧ Aside0 (Below w.heap.size w w'))
  case atStart => exact ⟨(t321), (by first | rfl | (simp; done) | (simp [*]; done)), H', ⟨Nat.le_refl _⟩, ⟨by (with_reducible repeat (first | apply Kd.R_alloc | apply Kd.R_drewN | apply Kd.R_drew)); exact HO324.out⟩, ⟨by (with_reducible repeat (first | refine blk_drewN ?_ _ | refine blk_drew ?_ | refine blk_alloc ?_ _)); exact BK319.out⟩, ⟨by repeat (first | (with_reducible first | exact HB.out | apply below_alloc | apply pw_below_drewN | apply below_drew1 | refine below_set ?_ GE319.out) | exact HB.out)⟩⟩
  case round =>
    clear H'
    try clear c1
    try clear c2
    try clear p2
    try clear c3
    try clear c4
    obtain ⟨x8_1, rfl, HA, HK1, HO_9, BK319, HB⟩ := hrel
    cases gk with
    | zero => exact absurd HA.out (by simp [marginaliaref02_Moved.l0])
    | succ k1 =>
      have H := HA.out
      clear HA
      simp only [marginaliaref02_Moved.l0] at H
      by_cases c10 : 0 ≤ x8_1
      · rw [if_pos c10] at H
        have c10b0 : decide (0 ≤ x8_1) = true := decide_eq_true c10
        clear c10
        by_cases c11 : x8_1 < (t322.length : Int)
        · rw [if_pos c11] at H
          have c11b0 : decide (x8_1 < (t322.length : Int)) = true := decide_eq_true c11
          clear c11
          obtain ⟨bq12, hbq12⟩ : ∃ b_ : Bool, b_ = (rdOf false t322 x8_1) := ⟨_, rfl⟩
          replace H : (if bq12 = true then ((marginaliaref02_Of.f k1 t320 x8_1).bind fun bt326 => (some (bt326.1, bt326.2))) else (marginaliaref02_Moved.l0 k1 t320 (wrap64 (x8_1 - 1)) t322)) = some (r1, r2) := by rw [← hbq12] at H; exact H
          have Nbq12 := Aside0.mk hbq12
          clear hbq12
          by_cases c13 : bq12 = true
          · subst c13
            have H1 : ((marginaliaref02_Of.f k1 t320 x8_1).bind fun bt326 => (some (bt326.1, bt326.2))) = some (r1, r2) := by rw [if_pos rfl] at H; exact H
            clear H
            have H := H1
            clear H1
            replace H := Option.bind_eq_some_iff.mp H
            obtain ⟨⟨t326, t327⟩, A140, H⟩ := H
            replace H : (some (t326, t327)) = some (r1, r2) := H
            have A14 := Aside0.mk A140
            clear A140
            simp only [Option.some.injEq, Prod.mk.injEq] at H
            obtain ⟨rfl, rfl⟩ := H
            obtain ⟨Ao15, co15, eo15⟩ := Kd.R_slice HO_9.out
            subst eo15
            have p325 : 0 ≤ (x8_1 : Int) := of_decide_eq_true (by first | (with_reducible assumption) | assumption)
            have q325 : x8_1 < (t322.length : Int) := of_decide_eq_true (by first | (with_reducible assumption) | assumption)
            obtain ⟨ad325, e325, hx325_0⟩ := Kd.at_bool (Kd.R_reads' HO_9.out).2.2 x8_1 p325 q325
            (try rw [← Nbq12.out] at hx325_0)
            cases e325
            replace p325 := eq_true p325
            replace q325 := eq_true q325
            go_wp2_with (first | ((with_reducible refine gate_callee (f := 16) rfl ?_); refine goesL_ (some 27) rfl rfl Tryd.func16 (by kernel_rfl) rfl #[.string t320, .int .i64 x8_1] rfl (by (try simp only [List.map_toArray, List.map_cons, List.map_nil]); first | done | rfl | (simp only [List.length_drop, List.length_take]; rfl)) ?_; (with_reducible refine (marginaliaref02_Of.calls k1 t320 x8_1 t326 t327 _ A14.out).mono ?_); rintro e w16 ⟨rfl, hb⟩; refine ⟨_, rfl, ?_⟩; have n0_ := Aside0.mk (Kd.R_below (by (with_reducible repeat (first | apply Kd.R_alloc | apply Kd.R_drewN | apply Kd.R_drew)); exact HO_9.out) hb); have n1_ := Aside0.mk (blk_below (g := gb319) (o := .cells #[.int .i64 0, .int .i64 0] 23 (0, 0)) (by (with_reducible repeat (first | refine blk_drewN ?_ _ | refine blk_drew ?_ | refine blk_alloc ?_ _)); exact BK319.out) hb); have n2_ := Aside0.mk (below_step (by repeat (first | (with_reducible first | exact HB.out | apply below_alloc | apply pw_below_drewN | apply below_drew1 | refine below_set ?_ GE319.out) | exact HB.out)) hb); clear HO_9; clear BK319; clear HB; have HO_9 := n0_; have BK319 := n1_; have HB := n2_; clear n0_ n1_ n2_; (try clear hb); (try clear hb2); (try clear hk); (try clear hi); have hcz17_0 : w16.cell? ⟨gb319, 0, none⟩ = some (.int .i64 0) := (blk_cell BK319.out 0).trans rfl; have hcz17_1 : w16.cell? ⟨gb319, 1, none⟩ = some (.int .i64 0) := (blk_cell BK319.out 1).trans rfl; have hfz17_0 := blk_frozen BK319.out 0; have hfz17_1 := blk_frozen BK319.out 1))
            refine bodyPost_ret (results_cell_row rfl _ _ gb319 23 #[.int .i64 t326, .int .i64 t327] (0, 0) _ rfl (by (with_reducible repeat (first | refine blk_drewN ?_ _ | refine blk_drew ?_ | refine blk_alloc ?_ _)); refine blk_put (cs := #[.int .i64 t326, .int .i64 0]) ?_ 1 _ rfl; (with_reducible repeat (first | refine blk_drewN ?_ _ | refine blk_drew ?_ | refine blk_alloc ?_ _)); refine blk_put (cs := #[.int .i64 0, .int .i64 0]) ?_ 0 _ rfl; (with_reducible repeat (first | refine blk_drewN ?_ _ | refine blk_drew ?_ | refine blk_alloc ?_ _)); exact BK319.out) Tryd.underlying23 rfl (by kernel_rfl)) rfl ?_
            exact ⟨by first | rfl | (simp [errW_none, errW_some] <;> rfl) | (simp [*, errW_none, errW_some] <;> rfl), by repeat (first | (with_reducible first | exact HB.out | apply below_alloc | apply pw_below_drewN | apply below_drew1 | refine below_set ?_ GE319.out) | exact HB.out)⟩
          · replace c13 := Bool.eq_false_iff.mpr c13
            subst c13
            have H1 : (marginaliaref02_Moved.l0 k1 t320 (wrap64 (x8_1 - 1)) t322) = some (r1, r2) := by rw [if_neg (show ¬ (false = true) by decide)] at H; exact H
            clear H
            have H := H1
            clear H1
            have H' := Aside0.mk H
            clear H
            obtain ⟨Ao18, co18, eo18⟩ := Kd.R_slice HO_9.out
            subst eo18
            have p325 : 0 ≤ (x8_1 : Int) := of_decide_eq_true (by first | (with_reducible assumption) | assumption)
            have q325 : x8_1 < (t322.length : Int) := of_decide_eq_true (by first | (with_reducible assumption) | assumption)
            obtain ⟨ad325, e325, hx325_0⟩ := Kd.at_bool (Kd.R_reads' HO_9.out).2.2 x8_1 p325 q325
            (try rw [← Nbq12.out] at hx325_0)
            cases e325
            replace p325 := eq_true p325
            replace q325 := eq_true q325
            go_wp2
            go_roundg k1
            case measure => have := HK1.out; omega
            case rel => exact ⟨(wrap64 (x8_1 - 1)), (by first | rfl | (simp; done) | (simp [*]; done)), H', ⟨by have := HK1.out; omega⟩, ⟨by (with_reducible repeat (first | apply Kd.R_alloc | apply Kd.R_drewN | apply Kd.R_drew)); exact HO_9.out⟩, ⟨by (with_reducible repeat (first | refine blk_drewN ?_ _ | refine blk_drew ?_ | refine blk_alloc ?_ _)); exact BK319.out⟩, ⟨by repeat (first | (with_reducible first | exact HB.out | apply below_alloc | apply pw_below_drewN | apply below_drew1 | refine below_set ?_ GE319.out) | exact HB.out)⟩⟩
        · rw [if_neg c11] at H
          exact absurd H (by simp)
      · rw [if_neg c10] at H
        exact absurd H (by simp)

end Go.Proofs.YtbioehoeoalalaaDoor.P
