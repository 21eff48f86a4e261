-- printed by xprint (a program of this session)
import Derived.Test.YtfllpoonfhiipaaPx0
import Derived.Test.YtfllpoonfhiipaaPx2
import Derived.Test.YtfllpoonfhiipaaPx6
import Derived.Test.YtfllpoonfhiipaaPx8
import Derived.Test.YtfllpoonfhiipaaPx10
namespace Go.Proofs.Ytfllpoonfhiipaa.P
open Go.RowKit Go.Proofs.YtfllpoonfhiipaaW.PrintWords Go.Proofs.YtfllpoonfhiipaaW.PrintLast Go.Proofs.YtfllpoonfhiipaaW.PrintMore
attribute [local go_sem] max2_int min2_int max_two min_two max_three min_three max_four min_four   -- for this text's walks alone
set_option linter.unusedVariables false
set_option linter.unusedSimpArgs false

/-! ### marginalialaw01_RopeMoves: function 4 -/
def marginalialaw01_RopeMoves.j0 : Nat → Int → Bool → List (S47) → Int → Int → Int → Option (Bool)
  | 0, _, _, _, _, _, _ => none
  | k + 1, x1, x2, x7, x8, x9, x10 => if x10 = 0 then ((marginaliaref01_Move.f k x7 x1 x2).bind fun t186 => (if x8 = t186 then (if x9 = 0 then ((marginalialaw01_alive.f).bind fun t187 => (some t187)) else (some false)) else (some false))) else (if x8 = 0 then (if x9 = x10 then ((marginalialaw01_alive.f).bind fun t188 => (some t188)) else (some false)) else (some false))
def marginalialaw01_RopeMoves.f (k : Nat) (l0 : List (S47)) (a1 : Int) (a2 : Bool) : Option (Bool) := (marginaliaref01_Cut.f k l0 2000).bind fun t180 => ((rope_Move.f k t180 a1 a2).bind fun bt183 => (if (t180.length : Int) > 100 then (marginalialaw01_RopeMoves.j0 k a1 a2 t180 bt183.1 bt183.2 3) else ((marginaliaref01_Spans.f k t180).bind fun t185 => (if t185 = true then (if a1 < 0 then (marginalialaw01_RopeMoves.j0 k a1 a2 t180 bt183.1 bt183.2 2) else (if a1 > 20000 then (marginalialaw01_RopeMoves.j0 k a1 a2 t180 bt183.1 bt183.2 2) else (marginalialaw01_RopeMoves.j0 k a1 a2 t180 bt183.1 bt183.2 0))) else (marginalialaw01_RopeMoves.j0 k a1 a2 t180 bt183.1 bt183.2 2)))))
theorem marginalialaw01_RopeMoves.mono_l : ∀ k, (∀ y0 y1 y2 y3 y4 y5, LeO (marginalialaw01_RopeMoves.j0 k y0 y1 y2 y3 y4 y5) (marginalialaw01_RopeMoves.j0 (k + 1) y0 y1 y2 y3 y4 y5))
  | 0 => fun _ _ _ _ _ _ r h => by simp [marginalialaw01_RopeMoves.j0] at h
  | k + 1 => by
    have ih0 := marginalialaw01_RopeMoves.mono_l k
    · intro y0 y1 y2 y3 y4 y5
      unfold marginalialaw01_RopeMoves.j0
      repeat' first
      | (with_reducible exact ih0 _ _ _ _ _ _)
      | (with_reducible exact marginaliaref01_Cut.mono _ _ _)
      | (with_reducible exact marginaliaref01_Move.mono _ _ _ _)
      | (with_reducible exact marginaliaref01_Spans.mono _ _)
      | (with_reducible exact rope_Move.mono _ _ _ _)
      | (with_reducible exact LeO.refl _)
      | (with_reducible exact LeO.none _)
      | (with_reducible refine LeO.ite ?_ ?_)
      | (with_reducible refine LeO.bind ?_ (fun _ => ?_))
      | exact ih0 _ _ _ _ _ _
      | exact marginaliaref01_Cut.mono _ _ _
      | exact marginaliaref01_Move.mono _ _ _ _
      | exact marginaliaref01_Spans.mono _ _
      | exact rope_Move.mono _ _ _ _
      | exact LeO.none _
      | refine LeO.ite ?_ ?_
      | refine LeO.bind ?_ (fun _ => ?_)
theorem marginalialaw01_RopeMoves.mono : ∀ a0 a1 a2 k, LeO (marginalialaw01_RopeMoves.f k a0 a1 a2) (marginalialaw01_RopeMoves.f (k + 1) a0 a1 a2) := by
  intro a0 a1 a2 k
  have ih0 := marginalialaw01_RopeMoves.mono_l k
  unfold marginalialaw01_RopeMoves.f
  repeat' first
      | (with_reducible exact ih0 _ _ _ _ _ _)
      | (with_reducible exact marginaliaref01_Cut.mono _ _ _)
      | (with_reducible exact marginaliaref01_Move.mono _ _ _ _)
      | (with_reducible exact marginaliaref01_Spans.mono _ _)
      | (with_reducible exact rope_Move.mono _ _ _ _)
      | (with_reducible exact LeO.refl _)
      | (with_reducible exact LeO.none _)
      | (with_reducible refine LeO.ite ?_ ?_)
      | (with_reducible refine LeO.bind ?_ (fun _ => ?_))
      | exact ih0 _ _ _ _ _ _
      | exact marginaliaref01_Cut.mono _ _ _
      | exact marginaliaref01_Move.mono _ _ _ _
      | exact marginaliaref01_Spans.mono _ _
      | exact rope_Move.mono _ _ _ _
      | exact LeO.none _
      | refine LeO.ite ?_ ?_
      | refine LeO.bind ?_ (fun _ => ?_)
set_option maxHeartbeats 8000000 in
set_option maxRecDepth 100000 in
theorem marginalialaw01_RopeMoves.calls (k : Nat) (A0 : Option Addr) (c0 : Nat) (l0 : List (S47)) (a1 : Int) (a2 : Bool) (r : Bool) (w : World) (hr0 : Kd.C k47 w A0 l0.length l0) (hc0 : l0.length ≤ c0) (h : marginalialaw01_RopeMoves.f k l0 a1 a2 = some r) :
    Calls Try.prog 4 #[.slice A0 l0.length c0, .int .i64 a1, .bool a2] w fun e w' => e = .returned (.bool r) ∧ Below w.heap.size w w' := by
  have HR0 := Aside0.mk hr0
  have HC0 := Aside0.mk hc0
  clear hr0 hc0
  have HB := Aside0.mk (Below.refl w.heap.size w)
  have H : ((marginaliaref01_Cut.f k l0 2000).bind fun t180 => ((rope_Move.f k t180 a1 a2).bind fun bt183 => (if (t180.length : Int) > 100 then (marginalialaw01_RopeMoves.j0 k a1 a2 t180 bt183.1 bt183.2 3) else ((marginaliaref01_Spans.f k t180).bind fun t185 => (if t185 = true then (if a1 < 0 then (marginalialaw01_RopeMoves.j0 k a1 a2 t180 bt183.1 bt183.2 2) else (if a1 > 20000 then (marginalialaw01_RopeMoves.j0 k a1 a2 t180 bt183.1 bt183.2 2) else (marginalialaw01_RopeMoves.j0 k a1 a2 t180 bt183.1 bt183.2 0))) else (marginalialaw01_RopeMoves.j0 k a1 a2 t180 bt183.1 bt183.2 2)))))) = some r := h
  clear h
  replace H := Option.bind_eq_some_iff.mp H
  obtain ⟨t180, A40, H⟩ := H
  replace H : ((rope_Move.f k t180 a1 a2).bind fun bt183 => (if (t180.length : Int) > 100 then (marginalialaw01_RopeMoves.j0 k a1 a2 t180 bt183.1 bt183.2 3) else ((marginaliaref01_Spans.f k t180).bind fun t185 => (if t185 = true then (if a1 < 0 then (marginalialaw01_RopeMoves.j0 k a1 a2 t180 bt183.1 bt183.2 2) else (if a1 > 20000 then (marginalialaw01_RopeMoves.j0 k a1 a2 t180 bt183.1 bt183.2 2) else (marginalialaw01_RopeMoves.j0 k a1 a2 t180 bt183.1 bt183.2 0))) else (marginalialaw01_RopeMoves.j0 k a1 a2 t180 bt183.1 bt183.2 2))))) = some r := H
  have A4 := Aside0.mk A40
  clear A40
  replace H := Option.bind_eq_some_iff.mp H
  obtain ⟨⟨t183, t184⟩, A50, H⟩ := H
  replace H : (if (t180.length : Int) > 100 then (marginalialaw01_RopeMoves.j0 k a1 a2 t180 t183 t184 3) else ((marginaliaref01_Spans.f k t180).bind fun t185 => (if t185 = true then (if a1 < 0 then (marginalialaw01_RopeMoves.j0 k a1 a2 t180 t183 t184 2) else (if a1 > 20000 then (marginalialaw01_RopeMoves.j0 k a1 a2 t180 t183 t184 2) else (marginalialaw01_RopeMoves.j0 k a1 a2 t180 t183 t184 0))) else (marginalialaw01_RopeMoves.j0 k a1 a2 t180 t183 t184 2)))) = some r := H
  have A5 := Aside0.mk A50
  clear A50
  have HC6 := Aside0.mk H
  clear H
  go_enter Try.func4, Try.ntmps4
  go_upto_block 0 with (first | ((with_reducible refine gate_callee (f := 16) rfl ?_); refine goesL_ (some 12) rfl rfl Try.func16 (by kernel_rfl) rfl #[.slice A0 l0.length c0, .int .i64 2000] rfl (by (try simp only [List.map_toArray, List.map_cons, List.map_nil]); first | done | rfl | (simp only [List.length_drop, List.length_take]; rfl)) ?_; (with_reducible refine (marginaliaref01_Cut.calls k _ _ l0 2000 t180 _ ?side1 ?side2 A4.out).mono ?_); (case side1 => repeat (first | exact HR0.out | (with_reducible refine Kd.C_alloc ?_ _) | (with_reducible refine Kd.C_drewN ?_ _) | (with_reducible refine Kd.C_drew ?_))); (case side2 => exact HC0.out); rintro e w7 ⟨v181, rfl, ho0, hb⟩; refine ⟨_, rfl, ?_⟩; have n0_ := Aside0.mk (Kd.R_lower ho0 (below_size (by repeat (first | (with_reducible first | exact HB.out | apply below_alloc | apply pw_below_drewN | apply below_drew1) | exact HB.out)))); have n1_ := Aside0.mk (below_step (by repeat (first | (with_reducible first | exact HB.out | apply below_alloc | apply pw_below_drewN | apply below_drew1) | exact HB.out)) hb); clear HB; have HO182 := n0_; have HB := n1_; clear n0_ n1_; (try clear hb); (try clear hb2); (try clear hk); (try clear hi); (try clear ho0); obtain ⟨Ao8, co8, eo8⟩ := Kd.R_slice HO182.out; subst eo8) | ((with_reducible refine gate_callee (f := 25) rfl ?_); refine goesL_ (some 17) rfl rfl Try.func25 (by kernel_rfl) rfl #[.slice Ao8 t180.length co8, .int .i64 a1, .bool a2] rfl (by (try simp only [List.map_toArray, List.map_cons, List.map_nil]); first | done | rfl | (simp only [List.length_drop, List.length_take]; rfl)) ?_; (with_reducible refine (rope_Move.calls k _ _ t180 a1 a2 t183 t184 _ ?side1 ?side2 A5.out).mono ?_); (case side1 => repeat (first | exact (Kd.R_reads' HO182.out).2.2 | (with_reducible refine Kd.C_alloc ?_ _) | (with_reducible refine Kd.C_drewN ?_ _) | (with_reducible refine Kd.C_drew ?_))); (case side2 => exact (Kd.R_reads' HO182.out).2.1); rintro e w9 ⟨rfl, hb⟩; refine ⟨_, rfl, ?_⟩; have n0_ := Aside0.mk (Kd.R_below (by (with_reducible repeat (first | apply Kd.R_alloc | apply Kd.R_drewN | apply Kd.R_drew)); exact HO182.out) hb); have n1_ := Aside0.mk (below_step (by repeat (first | (with_reducible first | exact HB.out | apply below_alloc | apply pw_below_drewN | apply below_drew1) | exact HB.out)) hb); clear HO182; clear HB; have HO182 := n0_; have HB := n1_; clear n0_ n1_; (try clear hb); (try clear hb2); (try clear hk); (try clear hi)))
  (try simp only [Act.put, List.setIfInBounds_toArray, List.set_cons_zero, List.set_cons_succ])
  go_cut [10] (fun v10 wc => ∃ (kq : Nat) (x10_5 : Int), v10 = .int .i64 x10_5 ∧ Aside0 (marginalialaw01_RopeMoves.j0 kq a1 a2 t180 t183 t184 x10_5 = some r) ∧ Aside0 (kq ≤ k) ∧ Aside0 (Kd.R k47 47 wc w.heap.size (fun _ => True) (.slice Ao8 t180.length co8) t180) ∧ Aside0 (Below w.heap.size w wc))
  case first =>
    have H := HC6.out
    clear HC6
    by_cases c10 : (t180.length : Int) > 100
    · rw [if_pos c10] at H
      have c10b0 : decide (100 < (t180.length : Int)) = true := decide_eq_true c10
      have c10b1 : decide (100 < t180.length) = true := decide_eq_true (by omega)
      clear c10
      (first | rw [c10b0] | (simp only [i64_w, i32_w]; rw [c10b0]) | skip)
      have H' := Aside0.mk H
      clear H
      go_wp2
      go_meet
      case rel => exact ⟨_, (3), (by first | rfl | (simp; done) | (simp [*]; done)), H', ⟨by first | omega | exact Nat.le_refl _⟩, ⟨by (with_reducible repeat (first | apply Kd.R_alloc | apply Kd.R_drewN | apply Kd.R_drew)); exact HO182.out⟩, ⟨by repeat (first | (with_reducible first | exact HB.out | apply below_alloc | apply pw_below_drewN | apply below_drew1) | exact HB.out)⟩⟩
    · rw [if_neg c10] at H
      have c10b0 : decide (100 < (t180.length : Int)) = false := decide_eq_false c10
      have c10b1 : decide (100 < t180.length) = false := decide_eq_false (by omega)
      clear c10
      (first | rw [c10b0] | (simp only [i64_w, i32_w]; rw [c10b0]) | skip)
      replace H := Option.bind_eq_some_iff.mp H
      obtain ⟨t185, A110, H⟩ := H
      replace H : (if t185 = true then (if a1 < 0 then (marginalialaw01_RopeMoves.j0 k a1 a2 t180 t183 t184 2) else (if a1 > 20000 then (marginalialaw01_RopeMoves.j0 k a1 a2 t180 t183 t184 2) else (marginalialaw01_RopeMoves.j0 k a1 a2 t180 t183 t184 0))) else (marginalialaw01_RopeMoves.j0 k a1 a2 t180 t183 t184 2)) = some r := H
      have A11 := Aside0.mk A110
      clear A110
      by_cases c12 : t185 = true
      · subst c12
        have H1 : (if a1 < 0 then (marginalialaw01_RopeMoves.j0 k a1 a2 t180 t183 t184 2) else (if a1 > 20000 then (marginalialaw01_RopeMoves.j0 k a1 a2 t180 t183 t184 2) else (marginalialaw01_RopeMoves.j0 k a1 a2 t180 t183 t184 0))) = some r := by rw [if_pos rfl] at H; exact H
        clear H
        have H := H1
        clear H1
        by_cases c13 : a1 < 0
        · rw [if_pos c13] at H
          have c13b0 : decide (a1 < 0) = true := decide_eq_true c13
          clear c13
          have H' := Aside0.mk H
          clear H
          go_wp2_with (first | ((with_reducible refine gate_callee (f := 26) rfl ?_); refine goesL_ (some 26) rfl rfl Try.func26 (by kernel_rfl) rfl #[.slice Ao8 t180.length co8] rfl (by (try simp only [List.map_toArray, List.map_cons, List.map_nil]); first | done | rfl | (simp only [List.length_drop, List.length_take]; rfl)) ?_; (with_reducible refine (marginaliaref01_Spans.calls k _ _ t180 true _ ?side1 ?side2 A11.out).mono ?_); (case side1 => repeat (first | exact (Kd.R_reads' HO182.out).2.2 | (with_reducible refine Kd.C_alloc ?_ _) | (with_reducible refine Kd.C_drewN ?_ _) | (with_reducible refine Kd.C_drew ?_))); (case side2 => exact (Kd.R_reads' HO182.out).2.1); rintro e w' ⟨rfl, ⟨nd, rfl⟩⟩; refine ⟨_, rfl, ?_⟩))
          go_meet
          case rel => exact ⟨_, (2), (by first | rfl | (simp; done) | (simp [*]; done)), H', ⟨by first | omega | exact Nat.le_refl _⟩, ⟨by (with_reducible repeat (first | apply Kd.R_alloc | apply Kd.R_drewN | apply Kd.R_drew)); exact HO182.out⟩, ⟨by repeat (first | (with_reducible first | exact HB.out | apply below_alloc | apply pw_below_drewN | apply below_drew1) | exact HB.out)⟩⟩
        · rw [if_neg c13] at H
          have c13b0 : decide (a1 < 0) = false := decide_eq_false c13
          clear c13
          by_cases c14 : a1 > 20000
          · rw [if_pos c14] at H
            have c14b0 : decide (20000 < a1) = true := decide_eq_true c14
            clear c14
            have H' := Aside0.mk H
            clear H
            go_wp2_with (first | ((with_reducible refine gate_callee (f := 26) rfl ?_); refine goesL_ (some 26) rfl rfl Try.func26 (by kernel_rfl) rfl #[.slice Ao8 t180.length co8] rfl (by (try simp only [List.map_toArray, List.map_cons, List.map_nil]); first | done | rfl | (simp only [List.length_drop, List.length_take]; rfl)) ?_; (with_reducible refine (marginaliaref01_Spans.calls k _ _ t180 true _ ?side1 ?side2 A11.out).mono ?_); (case side1 => repeat (first | exact (Kd.R_reads' HO182.out).2.2 | (with_reducible refine Kd.C_alloc ?_ _) | (with_reducible refine Kd.C_drewN ?_ _) | (with_reducible refine Kd.C_drew ?_))); (case side2 => exact (Kd.R_reads' HO182.out).2.1); rintro e w' ⟨rfl, ⟨nd, rfl⟩⟩; refine ⟨_, rfl, ?_⟩))
            go_meet
            case rel => exact ⟨_, (2), (by first | rfl | (simp; done) | (simp [*]; done)), H', ⟨by first | omega | exact Nat.le_refl _⟩, ⟨by (with_reducible repeat (first | apply Kd.R_alloc | apply Kd.R_drewN | apply Kd.R_drew)); exact HO182.out⟩, ⟨by repeat (first | (with_reducible first | exact HB.out | apply below_alloc | apply pw_below_drewN | apply below_drew1) | exact HB.out)⟩⟩
          · rw [if_neg c14] at H
            have c14b0 : decide (20000 < a1) = false := decide_eq_false c14
            clear c14
            have H' := Aside0.mk H
            clear H
            go_wp2_with (first | ((with_reducible refine gate_callee (f := 26) rfl ?_); refine goesL_ (some 26) rfl rfl Try.func26 (by kernel_rfl) rfl #[.slice Ao8 t180.length co8] rfl (by (try simp only [List.map_toArray, List.map_cons, List.map_nil]); first | done | rfl | (simp only [List.length_drop, List.length_take]; rfl)) ?_; (with_reducible refine (marginaliaref01_Spans.calls k _ _ t180 true _ ?side1 ?side2 A11.out).mono ?_); (case side1 => repeat (first | exact (Kd.R_reads' HO182.out).2.2 | (with_reducible refine Kd.C_alloc ?_ _) | (with_reducible refine Kd.C_drewN ?_ _) | (with_reducible refine Kd.C_drew ?_))); (case side2 => exact (Kd.R_reads' HO182.out).2.1); rintro e w' ⟨rfl, ⟨nd, rfl⟩⟩; refine ⟨_, rfl, ?_⟩))
            go_meet
            case rel => exact ⟨_, (0), (by first | rfl | (simp; done) | (simp [*]; done)), H', ⟨by first | omega | exact Nat.le_refl _⟩, ⟨by (with_reducible repeat (first | apply Kd.R_alloc | apply Kd.R_drewN | apply Kd.R_drew)); exact HO182.out⟩, ⟨by repeat (first | (with_reducible first | exact HB.out | apply below_alloc | apply pw_below_drewN | apply below_drew1) | exact HB.out)⟩⟩
      · replace c12 := Bool.eq_false_iff.mpr c12
        subst c12
        have H1 : (marginalialaw01_RopeMoves.j0 k a1 a2 t180 t183 t184 2) = some r := by rw [if_neg (show ¬ (false = true) by decide)] at H; exact H
        clear H
        have H := H1
        clear H1
        have H' := Aside0.mk H
        clear H
        go_wp2_with (first | ((with_reducible refine gate_callee (f := 26) rfl ?_); refine goesL_ (some 26) rfl rfl Try.func26 (by kernel_rfl) rfl #[.slice Ao8 t180.length co8] rfl (by (try simp only [List.map_toArray, List.map_cons, List.map_nil]); first | done | rfl | (simp only [List.length_drop, List.length_take]; rfl)) ?_; (with_reducible refine (marginaliaref01_Spans.calls k _ _ t180 false _ ?side1 ?side2 A11.out).mono ?_); (case side1 => repeat (first | exact (Kd.R_reads' HO182.out).2.2 | (with_reducible refine Kd.C_alloc ?_ _) | (with_reducible refine Kd.C_drewN ?_ _) | (with_reducible refine Kd.C_drew ?_))); (case side2 => exact (Kd.R_reads' HO182.out).2.1); rintro e w' ⟨rfl, ⟨nd, rfl⟩⟩; refine ⟨_, rfl, ?_⟩))
        go_meet
        case rel => exact ⟨_, (2), (by first | rfl | (simp; done) | (simp [*]; done)), H', ⟨by first | omega | exact Nat.le_refl _⟩, ⟨by (with_reducible repeat (first | apply Kd.R_alloc | apply Kd.R_drewN | apply Kd.R_drew)); exact HO182.out⟩, ⟨by repeat (first | (with_reducible first | exact HB.out | apply below_alloc | apply pw_below_drewN | apply below_drew1) | exact HB.out)⟩⟩
  case rest =>
    clear HC6
    try clear c1
    try clear c2
    try clear p2
    try clear c4
    try clear c10
    try clear c10b0
    try clear c10b1
    try clear c12
    try clear c13
    try clear c13b0
    try clear c14
    try clear c14b0
    obtain ⟨kq, x10_5, rfl, HA, HJ5, HO_7, HB⟩ := hcut
    cases kq with
    | zero => exact absurd HA.out (by simp [marginalialaw01_RopeMoves.j0])
    | succ kj5 =>
      have H := HA.out
      clear HA
      simp only [marginalialaw01_RopeMoves.j0] at H
      by_cases c15 : x10_5 = 0
      · rw [if_pos c15] at H
        have c15b0 : (x10_5 == 0) = true := beq_iff_eq.mpr c15
        have c15b1 : (x10_5 != 0) = false := bne_eq_false_iff_eq.mpr c15
        clear c15
        replace H := Option.bind_eq_some_iff.mp H
        obtain ⟨t186, A160, H⟩ := H
        replace H : (if t183 = t186 then (if t184 = 0 then ((marginalialaw01_alive.f).bind fun t187 => (some t187)) else (some false)) else (some false)) = some r := H
        have A16 := Aside0.mk A160
        clear A160
        by_cases c17 : t183 = t186
        · rw [if_pos c17] at H
          have c17b0 : (t183 == t186) = true := beq_iff_eq.mpr c17
          have c17b1 : (t183 != t186) = false := bne_eq_false_iff_eq.mpr c17
          clear c17
          by_cases c18 : t184 = 0
          · rw [if_pos c18] at H
            have c18b0 : (t184 == 0) = true := beq_iff_eq.mpr c18
            have c18b1 : (t184 != 0) = false := bne_eq_false_iff_eq.mpr c18
            clear c18
            replace H := Option.bind_eq_some_iff.mp H
            obtain ⟨t187, A190, H⟩ := H
            replace H : (some t187) = some r := H
            have A19 := Aside0.mk A190
            clear A190
            obtain rfl := Option.some.inj H
            go_wp2_with (first | ((with_reducible refine gate_callee (f := 27) rfl ?_); refine goesL_ (some 52) rfl rfl Try.func27 (by kernel_rfl) rfl #[.slice Ao8 t180.length co8, .int .i64 a1, .bool a2] rfl (by (try simp only [List.map_toArray, List.map_cons, List.map_nil]); first | done | rfl | (simp only [List.length_drop, List.length_take]; rfl)) ?_; (with_reducible refine (marginaliaref01_Move.calls kj5 _ _ t180 a1 a2 t186 _ ?side1 ?side2 A16.out).mono ?_); (case side1 => repeat (first | exact (Kd.R_reads' HO_7.out).2.2 | (with_reducible refine Kd.C_alloc ?_ _) | (with_reducible refine Kd.C_drewN ?_ _) | (with_reducible refine Kd.C_drew ?_))); (case side2 => exact (Kd.R_reads' HO_7.out).2.1); rintro e w20 ⟨rfl, hb⟩; refine ⟨_, rfl, ?_⟩; have n0_ := Aside0.mk (Kd.R_below (by (with_reducible repeat (first | apply Kd.R_alloc | apply Kd.R_drewN | apply Kd.R_drew)); exact HO_7.out) hb); have n1_ := Aside0.mk (below_step (by repeat (first | (with_reducible first | exact HB.out | apply below_alloc | apply pw_below_drewN | apply below_drew1) | exact HB.out)) hb); clear HO_7; clear HB; have HO_7 := n0_; have HB := n1_; clear n0_ n1_; (try clear hb); (try clear hb2); (try clear hk); (try clear hi)) | (go_at_call 21; (with_reducible refine (marginalialaw01_alive.calls  t187 _ A19.out).mono ?_); rintro e w21 ⟨rfl, hb⟩; have n0_ := Aside0.mk (Kd.R_below (by (with_reducible repeat (first | apply Kd.R_alloc | apply Kd.R_drewN | apply Kd.R_drew)); exact HO_7.out) hb); have n1_ := Aside0.mk (below_step (by repeat (first | (with_reducible first | exact HB.out | apply below_alloc | apply pw_below_drewN | apply below_drew1) | exact HB.out)) hb); clear HO_7; clear HB; have HO_7 := n0_; have HB := n1_; clear n0_ n1_; (try clear hb); (try clear hb2); (try clear hk); (try clear hi)))
            go_ret
            exact ⟨by first | rfl | (simp [errW_none, errW_some] <;> rfl) | (simp [*, errW_none, errW_some] <;> rfl), by repeat (first | (with_reducible first | exact HB.out | apply below_alloc | apply pw_below_drewN | apply below_drew1) | exact HB.out)⟩
          · rw [if_neg c18] at H
            have c18b0 : (t184 == 0) = false := beq_eq_false_iff_ne.mpr c18
            have c18b1 : (t184 != 0) = true := bne_iff_ne.mpr c18
            obtain rfl := Option.some.inj H
            go_wp2_with (first | ((with_reducible refine gate_callee (f := 27) rfl ?_); refine goesL_ (some 52) rfl rfl Try.func27 (by kernel_rfl) rfl #[.slice Ao8 t180.length co8, .int .i64 a1, .bool a2] rfl (by (try simp only [List.map_toArray, List.map_cons, List.map_nil]); first | done | rfl | (simp only [List.length_drop, List.length_take]; rfl)) ?_; (with_reducible refine (marginaliaref01_Move.calls kj5 _ _ t180 a1 a2 t186 _ ?side1 ?side2 A16.out).mono ?_); (case side1 => repeat (first | exact (Kd.R_reads' HO_7.out).2.2 | (with_reducible refine Kd.C_alloc ?_ _) | (with_reducible refine Kd.C_drewN ?_ _) | (with_reducible refine Kd.C_drew ?_))); (case side2 => exact (Kd.R_reads' HO_7.out).2.1); rintro e w22 ⟨rfl, hb⟩; refine ⟨_, rfl, ?_⟩; have n0_ := Aside0.mk (Kd.R_below (by (with_reducible repeat (first | apply Kd.R_alloc | apply Kd.R_drewN | apply Kd.R_drew)); exact HO_7.out) hb); have n1_ := Aside0.mk (below_step (by repeat (first | (with_reducible first | exact HB.out | apply below_alloc | apply pw_below_drewN | apply below_drew1) | exact HB.out)) hb); clear HO_7; clear HB; have HO_7 := n0_; have HB := n1_; clear n0_ n1_; (try clear hb); (try clear hb2); (try clear hk); (try clear hi)))
            go_ret
            exact ⟨by first | rfl | (simp [errW_none, errW_some] <;> rfl) | (simp [*, errW_none, errW_some] <;> rfl), by repeat (first | (with_reducible first | exact HB.out | apply below_alloc | apply pw_below_drewN | apply below_drew1) | exact HB.out)⟩
        · rw [if_neg c17] at H
          have c17b0 : (t183 == t186) = false := beq_eq_false_iff_ne.mpr c17
          have c17b1 : (t183 != t186) = true := bne_iff_ne.mpr c17
          obtain rfl := Option.some.inj H
          go_wp2_with (first | ((with_reducible refine gate_callee (f := 27) rfl ?_); refine goesL_ (some 52) rfl rfl Try.func27 (by kernel_rfl) rfl #[.slice Ao8 t180.length co8, .int .i64 a1, .bool a2] rfl (by (try simp only [List.map_toArray, List.map_cons, List.map_nil]); first | done | rfl | (simp only [List.length_drop, List.length_take]; rfl)) ?_; (with_reducible refine (marginaliaref01_Move.calls kj5 _ _ t180 a1 a2 t186 _ ?side1 ?side2 A16.out).mono ?_); (case side1 => repeat (first | exact (Kd.R_reads' HO_7.out).2.2 | (with_reducible refine Kd.C_alloc ?_ _) | (with_reducible refine Kd.C_drewN ?_ _) | (with_reducible refine Kd.C_drew ?_))); (case side2 => exact (Kd.R_reads' HO_7.out).2.1); rintro e w23 ⟨rfl, hb⟩; refine ⟨_, rfl, ?_⟩; have n0_ := Aside0.mk (Kd.R_below (by (with_reducible repeat (first | apply Kd.R_alloc | apply Kd.R_drewN | apply Kd.R_drew)); exact HO_7.out) hb); have n1_ := Aside0.mk (below_step (by repeat (first | (with_reducible first | exact HB.out | apply below_alloc | apply pw_below_drewN | apply below_drew1) | exact HB.out)) hb); clear HO_7; clear HB; have HO_7 := n0_; have HB := n1_; clear n0_ n1_; (try clear hb); (try clear hb2); (try clear hk); (try clear hi)))
          go_ret
          exact ⟨by first | rfl | (simp [errW_none, errW_some] <;> rfl) | (simp [*, errW_none, errW_some] <;> rfl), by repeat (first | (with_reducible first | exact HB.out | apply below_alloc | apply pw_below_drewN | apply below_drew1) | exact HB.out)⟩
      · rw [if_neg c15] at H
        have c15b0 : (x10_5 == 0) = false := beq_eq_false_iff_ne.mpr c15
        have c15b1 : (x10_5 != 0) = true := bne_iff_ne.mpr c15
        by_cases c24 : t183 = 0
        · rw [if_pos c24] at H
          have c24b0 : (t183 == 0) = true := beq_iff_eq.mpr c24
          have c24b1 : (t183 != 0) = false := bne_eq_false_iff_eq.mpr c24
          clear c24
          by_cases c25 : t184 = x10_5
          · rw [if_pos c25] at H
            have c25b0 : (t184 == x10_5) = true := beq_iff_eq.mpr c25
            have c25b1 : (t184 != x10_5) = false := bne_eq_false_iff_eq.mpr c25
            clear c25
            replace H := Option.bind_eq_some_iff.mp H
            obtain ⟨t188, A260, H⟩ := H
            replace H : (some t188) = some r := H
            have A26 := Aside0.mk A260
            clear A260
            obtain rfl := Option.some.inj H
            go_wp2_with (first | (go_at_call 21; (with_reducible refine (marginalialaw01_alive.calls  t188 _ A26.out).mono ?_); rintro e w27 ⟨rfl, hb⟩; have n0_ := Aside0.mk (Kd.R_below (by (with_reducible repeat (first | apply Kd.R_alloc | apply Kd.R_drewN | apply Kd.R_drew)); exact HO_7.out) hb); have n1_ := Aside0.mk (below_step (by repeat (first | (with_reducible first | exact HB.out | apply below_alloc | apply pw_below_drewN | apply below_drew1) | exact HB.out)) hb); clear HO_7; clear HB; have HO_7 := n0_; have HB := n1_; clear n0_ n1_; (try clear hb); (try clear hb2); (try clear hk); (try clear hi)))
            go_ret
            exact ⟨by first | rfl | (simp [errW_none, errW_some] <;> rfl) | (simp [*, errW_none, errW_some] <;> rfl), by repeat (first | (with_reducible first | exact HB.out | apply below_alloc | apply pw_below_drewN | apply below_drew1) | exact HB.out)⟩
          · rw [if_neg c25] at H
            have c25b0 : (t184 == x10_5) = false := beq_eq_false_iff_ne.mpr c25
            have c25b1 : (t184 != x10_5) = true := bne_iff_ne.mpr c25
            obtain rfl := Option.some.inj H
            go_wp2
            go_ret
            exact ⟨by first | rfl | (simp [errW_none, errW_some] <;> rfl) | (simp [*, errW_none, errW_some] <;> rfl), by repeat (first | (with_reducible first | exact HB.out | apply below_alloc | apply pw_below_drewN | apply below_drew1) | exact HB.out)⟩
        · rw [if_neg c24] at H
          have c24b0 : (t183 == 0) = false := beq_eq_false_iff_ne.mpr c24
          have c24b1 : (t183 != 0) = true := bne_iff_ne.mpr c24
          obtain rfl := Option.some.inj H
          go_wp2
          go_ret
          exact ⟨by first | rfl | (simp [errW_none, errW_some] <;> rfl) | (simp [*, errW_none, errW_some] <;> rfl), by repeat (first | (with_reducible first | exact HB.out | apply below_alloc | apply pw_below_drewN | apply below_drew1) | exact HB.out)⟩

/-! ### marginaliaref01_Diff: function 29 -/
mutual
def marginaliaref01_Diff.j1 : Nat → ByteArray → ByteArray → Int → Option ((List (S47)))
  | 0, _, _, _ => none
  | k + 1, x0, x1, x5 => marginaliaref01_Diff.l1 k x0 x1 x5 0
def marginaliaref01_Diff.l1 : Nat → ByteArray → ByteArray → Int → Int → Option ((List (S47)))
  | 0, _, _, _, _ => none
  | k + 1, x0, x1, x5, x6 => if x6 < (wrap64 ((x0.size : Int) - x5)) then (if x6 < (wrap64 ((x1.size : Int) - x5)) then (if 0 ≤ (wrap64 ((wrap64 ((x0.size : Int) - 1)) - x6)) then (if (wrap64 ((wrap64 ((x0.size : Int) - 1)) - x6)) < (x0.size : Int) then (if 0 ≤ (wrap64 ((wrap64 ((x1.size : Int) - 1)) - x6)) then (if (wrap64 ((wrap64 ((x1.size : Int) - 1)) - x6)) < (x1.size : Int) then (if (bt x0 (wrap64 ((wrap64 ((x0.size : Int) - 1)) - x6))) = (bt x1 (wrap64 ((wrap64 ((x1.size : Int) - 1)) - x6))) then (marginaliaref01_Diff.l1 k x0 x1 x5 (wrap64 (x6 + 1))) else (if 0 ≤ x5 then (if x5 ≤ (wrap64 ((x1.size : Int) - x6)) then (if (wrap64 ((x1.size : Int) - x6)) ≤ (x1.size : Int) then (some (([(⟨x5, wrap64 ((x0.size : Int) - x6), x1.extract (x5 : Int).toNat ((wrap64 ((x1.size : Int) - x6)) : Int).toNat⟩ : S47)] : List (S47)))) else (none)) else (none)) else (none))) else (none)) else (none)) else (none)) else (none)) else (if 0 ≤ x5 then (if x5 ≤ (wrap64 ((x1.size : Int) - x6)) then (if (wrap64 ((x1.size : Int) - x6)) ≤ (x1.size : Int) then (some (([(⟨x5, wrap64 ((x0.size : Int) - x6), x1.extract (x5 : Int).toNat ((wrap64 ((x1.size : Int) - x6)) : Int).toNat⟩ : S47)] : List (S47)))) else (none)) else (none)) else (none))) else (if 0 ≤ x5 then (if x5 ≤ (wrap64 ((x1.size : Int) - x6)) then (if (wrap64 ((x1.size : Int) - x6)) ≤ (x1.size : Int) then (some (([(⟨x5, wrap64 ((x0.size : Int) - x6), x1.extract (x5 : Int).toNat ((wrap64 ((x1.size : Int) - x6)) : Int).toNat⟩ : S47)] : List (S47)))) else (none)) else (none)) else (none))
def marginaliaref01_Diff.l0 : Nat → ByteArray → ByteArray → Int → Option ((List (S47)))
  | 0, _, _, _ => none
  | k + 1, x0, x1, x5 => if x5 < (x0.size : Int) then (if x5 < (x1.size : Int) then (if 0 ≤ x5 then (if (bt x0 x5) = (bt x1 x5) then (marginaliaref01_Diff.l0 k x0 x1 (wrap64 (x5 + 1))) else (marginaliaref01_Diff.j1 k x0 x1 x5)) else (none)) else (marginaliaref01_Diff.j1 k x0 x1 x5)) else (marginaliaref01_Diff.j1 k x0 x1 x5)
end
def marginaliaref01_Diff.f (k : Nat) (a0 : ByteArray) (a1 : ByteArray) : Option ((List (S47))) := if a0.toList = a1.toList then (some ([] : List (S47))) else (marginaliaref01_Diff.l0 k a0 a1 0)
theorem marginaliaref01_Diff.mono_l : ∀ k, (∀ y0 y1 y2, LeO (marginaliaref01_Diff.j1 k y0 y1 y2) (marginaliaref01_Diff.j1 (k + 1) y0 y1 y2)) ∧ (∀ y0 y1 y2 y3, LeO (marginaliaref01_Diff.l1 k y0 y1 y2 y3) (marginaliaref01_Diff.l1 (k + 1) y0 y1 y2 y3)) ∧ (∀ y0 y1 y2, LeO (marginaliaref01_Diff.l0 k y0 y1 y2) (marginaliaref01_Diff.l0 (k + 1) y0 y1 y2))
  | 0 => ⟨fun _ _ _ r h => by simp [marginaliaref01_Diff.j1] at h, fun _ _ _ _ r h => by simp [marginaliaref01_Diff.l1] at h, fun _ _ _ r h => by simp [marginaliaref01_Diff.l0] at h⟩
  | k + 1 => by
    obtain ⟨ih0, ih1, ih2⟩ := marginaliaref01_Diff.mono_l k
    refine ⟨?_, ?_, ?_⟩
    · intro y0 y1 y2
      unfold marginaliaref01_Diff.j1
      repeat' first
      | (with_reducible exact ih0 _ _ _)
      | (with_reducible exact ih1 _ _ _ _)
      | (with_reducible exact ih2 _ _ _)
      | (with_reducible exact LeO.refl _)
      | (with_reducible exact LeO.none _)
      | (with_reducible refine LeO.ite ?_ ?_)
      | (with_reducible refine LeO.bind ?_ (fun _ => ?_))
      | exact ih0 _ _ _
      | exact ih1 _ _ _ _
      | exact ih2 _ _ _
      | exact LeO.none _
      | refine LeO.ite ?_ ?_
      | refine LeO.bind ?_ (fun _ => ?_)
    · intro y0 y1 y2 y3
      unfold marginaliaref01_Diff.l1
      repeat' first
      | (with_reducible exact ih0 _ _ _)
      | (with_reducible exact ih1 _ _ _ _)
      | (with_reducible exact ih2 _ _ _)
      | (with_reducible exact LeO.refl _)
      | (with_reducible exact LeO.none _)
      | (with_reducible refine LeO.ite ?_ ?_)
      | (with_reducible refine LeO.bind ?_ (fun _ => ?_))
      | exact ih0 _ _ _
      | exact ih1 _ _ _ _
      | exact ih2 _ _ _
      | exact LeO.none _
      | refine LeO.ite ?_ ?_
      | refine LeO.bind ?_ (fun _ => ?_)
    · intro y0 y1 y2
      unfold marginaliaref01_Diff.l0
      repeat' first
      | (with_reducible exact ih0 _ _ _)
      | (with_reducible exact ih1 _ _ _ _)
      | (with_reducible exact ih2 _ _ _)
      | (with_reducible exact LeO.refl _)
      | (with_reducible exact LeO.none _)
      | (with_reducible refine LeO.ite ?_ ?_)
      | (with_reducible refine LeO.bind ?_ (fun _ => ?_))
      | exact ih0 _ _ _
      | exact ih1 _ _ _ _
      | exact ih2 _ _ _
      | exact LeO.none _
      | refine LeO.ite ?_ ?_
      | refine LeO.bind ?_ (fun _ => ?_)
theorem marginaliaref01_Diff.mono : ∀ a0 a1 k, LeO (marginaliaref01_Diff.f k a0 a1) (marginaliaref01_Diff.f (k + 1) a0 a1) := by
  intro a0 a1 k
  obtain ⟨ih0, ih1, ih2⟩ := marginaliaref01_Diff.mono_l k
  unfold marginaliaref01_Diff.f
  repeat' first
      | (with_reducible exact ih0 _ _ _)
      | (with_reducible exact ih1 _ _ _ _)
      | (with_reducible exact ih2 _ _ _)
      | (with_reducible exact LeO.refl _)
      | (with_reducible exact LeO.none _)
      | (with_reducible refine LeO.ite ?_ ?_)
      | (with_reducible refine LeO.bind ?_ (fun _ => ?_))
      | exact ih0 _ _ _
      | exact ih1 _ _ _ _
      | exact ih2 _ _ _
      | exact LeO.none _
      | refine LeO.ite ?_ ?_
      | refine LeO.bind ?_ (fun _ => ?_)
set_option maxHeartbeats 8000000 in
set_option maxRecDepth 100000 in
theorem marginaliaref01_Diff.calls (k : Nat) (a0 : ByteArray) (a1 : ByteArray) (r : List (S47)) (w : World) (h : marginaliaref01_Diff.f k a0 a1 = some r) :
    Calls Try.prog 29 #[.string a0, .string a1] w fun e w' => ∃ v0_ : Value, e = .returned (v0_) ∧ Kd.R k47 47 w' w.heap.size (fun _ => True) v0_ r ∧ Below w.heap.size w w' := by
  have hu47 := Try.underlying47
  have HB := Aside0.mk (Below.refl w.heap.size w)
  have H : (if a0.toList = a1.toList then (some ([] : List (S47))) else (marginaliaref01_Diff.l0 k a0 a1 0)) = some r := h
  clear h
  by_cases c3 : a0.toList = a1.toList
  · rw [if_pos c3] at H
    have c3b0 : (a0.toList == a1.toList) = true := beq_iff_eq.mpr c3
    have c3b1 : (a0.toList != a1.toList) = false := bne_eq_false_iff_eq.mpr c3
    clear c3
    obtain rfl := Option.some.inj H
    go_enter Try.func29, Try.ntmps29
    go_wp2
    repeat (go_quiet (fail); try go_wp2)
    go_ret
    exact ⟨_, by first | rfl | (simp [errW_none, errW_some] <;> rfl) | (simp [*, errW_none, errW_some] <;> rfl), by first | exact Kd.R_nil _ _ _ _ _ | exact Kd.N_nil _ _ _ _ _ | exact Kd.V_nil _ _ _ _ _ | exact Kd.Q_nil _ _ _ _ _ | exact Kd.S_nil _ _ _ _ _, by repeat (first | (with_reducible first | exact HB.out | apply below_alloc | apply pw_below_drewN | apply below_drew1) | exact HB.out)⟩
  · rw [if_neg c3] at H
    have c3b0 : (a0.toList == a1.toList) = false := beq_eq_false_iff_ne.mpr c3
    have c3b1 : (a0.toList != a1.toList) = true := bne_iff_ne.mpr c3
    have HC4 := Aside0.mk H
    clear H
    go_enter Try.func29, Try.ntmps29
    go_upto_block 0 with (fail)
    repeat (go_quiet (fail); go_upto_block 0 with (fail))
    go_cut [5] (fun v5 wc => ∃ (kq : Nat) (x5_3 : Int), v5 = .int .i64 x5_3 ∧ Aside0 (marginaliaref01_Diff.j1 kq a0 a1 x5_3 = some r) ∧ Aside0 (kq ≤ k) ∧ Aside0 (Below w.heap.size w wc))
    case first =>
      have H := HC4.out
      clear HC4
      have H' := Aside0.mk H
      clear H
      go_wp2
      repeat (go_quiet (fail); try go_wp2)
      go_loopg [5] k (fun kq v5 w' => ∃ (x5_1 : Int), v5 = .int .i64 x5_1 ∧ Aside0 (marginaliaref01_Diff.l0 kq a0 a1 x5_1 = some r) ∧ Aside0 (kq ≤ k) ∧ Aside0 (Below w.heap.size w w'))
      case atStart => exact ⟨(0), (by first | rfl | (simp; done) | (simp [*]; done)), H', ⟨Nat.le_refl _⟩, ⟨by repeat (first | (with_reducible first | exact HB.out | apply below_alloc | apply pw_below_drewN | apply below_drew1) | exact HB.out)⟩⟩
      case round =>
        clear H'
        try clear c2
        try clear p2
        try clear c3
        try clear c3b0
        try clear c3b1
        obtain ⟨x5_1, rfl, HA, HK1, HB⟩ := hrel
        cases gk with
        | zero => exact absurd HA.out (by simp [marginaliaref01_Diff.l0])
        | succ k1 =>
          have H := HA.out
          clear HA
          simp only [marginaliaref01_Diff.l0] at H
          by_cases c5 : x5_1 < (a0.size : Int)
          · rw [if_pos c5] at H
            have c5b0 : decide (x5_1 < (a0.size : Int)) = true := decide_eq_true c5
            clear c5
            (first | rw [c5b0] | (simp only [i64_w, i32_w]; rw [c5b0]) | skip)
            by_cases c6 : x5_1 < (a1.size : Int)
            · rw [if_pos c6] at H
              have c6b0 : decide (x5_1 < (a1.size : Int)) = true := decide_eq_true c6
              clear c6
              by_cases c7 : 0 ≤ x5_1
              · rw [if_pos c7] at H
                have c7b0 : decide (0 ≤ x5_1) = true := decide_eq_true c7
                clear c7
                by_cases c10 : (bt a0 x5_1) = (bt a1 x5_1)
                · rw [if_pos c10] at H
                  have c10b0 : ((bt a0 x5_1) == (bt a1 x5_1)) = true := beq_iff_eq.mpr c10
                  have c10b1 : ((bt a0 x5_1) != (bt a1 x5_1)) = false := bne_eq_false_iff_eq.mpr c10
                  clear c10
                  have H' := Aside0.mk H
                  clear H
                  have p8 : 0 ≤ (x5_1 : Int) := of_decide_eq_true (by first | (with_reducible assumption) | assumption)
                  have q8 : x5_1 < (a0.size : Int) := of_decide_eq_true (by first | (with_reducible assumption) | assumption)
                  have hx8 := bt_at a0 x5_1
                  replace p8 := eq_true p8
                  replace q8 := eq_true q8
                  have p9 : 0 ≤ (x5_1 : Int) := of_decide_eq_true (by first | (with_reducible assumption) | assumption)
                  have q9 : x5_1 < (a1.size : Int) := of_decide_eq_true (by first | (with_reducible assumption) | assumption)
                  have hx9 := bt_at a1 x5_1
                  replace p9 := eq_true p9
                  replace q9 := eq_true q9
                  go_wp2
                  repeat (go_quiet (fail); try go_wp2)
                  go_roundg k1
                  case measure => have := HK1.out; omega
                  case rel => exact ⟨(wrap64 (x5_1 + 1)), (by first | rfl | (simp; done) | (simp [*]; done)), H', ⟨by have := HK1.out; omega⟩, ⟨by repeat (first | (with_reducible first | exact HB.out | apply below_alloc | apply pw_below_drewN | apply below_drew1) | exact HB.out)⟩⟩
                · rw [if_neg c10] at H
                  have c10b0 : ((bt a0 x5_1) == (bt a1 x5_1)) = false := beq_eq_false_iff_ne.mpr c10
                  have c10b1 : ((bt a0 x5_1) != (bt a1 x5_1)) = true := bne_iff_ne.mpr c10
                  have H' := Aside0.mk H
                  clear H
                  have p8 : 0 ≤ (x5_1 : Int) := of_decide_eq_true (by first | (with_reducible assumption) | assumption)
                  have q8 : x5_1 < (a0.size : Int) := of_decide_eq_true (by first | (with_reducible assumption) | assumption)
                  have hx8 := bt_at a0 x5_1
                  replace p8 := eq_true p8
                  replace q8 := eq_true q8
                  have p9 : 0 ≤ (x5_1 : Int) := of_decide_eq_true (by first | (with_reducible assumption) | assumption)
                  have q9 : x5_1 < (a1.size : Int) := of_decide_eq_true (by first | (with_reducible assumption) | assumption)
                  have hx9 := bt_at a1 x5_1
                  replace p9 := eq_true p9
                  replace q9 := eq_true q9
                  go_wp2
                  repeat (go_quiet (fail); try go_wp2)
                  go_meet
                  case rel => exact ⟨_, (x5_1), (by first | rfl | (simp; done) | (simp [*]; done)), H', ⟨by have := HK1.out; first | omega | exact Nat.le_refl _⟩, ⟨by repeat (first | (with_reducible first | exact HB.out | apply below_alloc | apply pw_below_drewN | apply below_drew1) | exact HB.out)⟩⟩
              · rw [if_neg c7] at H
                exact absurd H (by simp)
            · rw [if_neg c6] at H
              have c6b0 : decide (x5_1 < (a1.size : Int)) = false := decide_eq_false c6
              clear c6
              have H' := Aside0.mk H
              clear H
              go_wp2
              repeat (go_quiet (fail); try go_wp2)
              go_meet
              case rel => exact ⟨_, (x5_1), (by first | rfl | (simp; done) | (simp [*]; done)), H', ⟨by have := HK1.out; first | omega | exact Nat.le_refl _⟩, ⟨by repeat (first | (with_reducible first | exact HB.out | apply below_alloc | apply pw_below_drewN | apply below_drew1) | exact HB.out)⟩⟩
          · rw [if_neg c5] at H
            have c5b0 : decide (x5_1 < (a0.size : Int)) = false := decide_eq_false c5
            clear c5
            (first | rw [c5b0] | (simp only [i64_w, i32_w]; rw [c5b0]) | skip)
            have H' := Aside0.mk H
            clear H
            go_wp2
            repeat (go_quiet (fail); try go_wp2)
            go_meet
            case rel => exact ⟨_, (x5_1), (by first | rfl | (simp; done) | (simp [*]; done)), H', ⟨by have := HK1.out; first | omega | exact Nat.le_refl _⟩, ⟨by repeat (first | (with_reducible first | exact HB.out | apply below_alloc | apply pw_below_drewN | apply below_drew1) | exact HB.out)⟩⟩
    case rest =>
      clear HC4
      try clear c1
      try clear c2
      try clear p2
      try clear c3
      try clear c3b0
      try clear c3b1
      try clear c5
      try clear c5b0
      try clear c6
      try clear c6b0
      try clear p6
      try clear c7
      try clear c7b0
      try clear p8
      try clear q8
      try clear hx8
      try clear p9
      try clear q9
      try clear hx9
      try clear c10
      try clear c10b0
      try clear c10b1
      try clear p2
      try clear p8
      try clear p9
      try clear q8
      try clear q9
      obtain ⟨kq, x5_3, rfl, HA, HJ3, HB⟩ := hcut
      cases kq with
      | zero => exact absurd HA.out (by simp [marginaliaref01_Diff.j1])
      | succ kj3 =>
        have H := HA.out
        clear HA
        simp only [marginaliaref01_Diff.j1] at H
        have H' := Aside0.mk H
        clear H
        go_wp2
        repeat (go_quiet (fail); try go_wp2)
        go_loopg [6] kj3 (fun kq v6 w' => ∃ (x6_2 : Int), v6 = .int .i64 x6_2 ∧ Aside0 (marginaliaref01_Diff.l1 kq a0 a1 x5_3 x6_2 = some r) ∧ Aside0 (kq ≤ kj3) ∧ Aside0 (Below w.heap.size w w'))
        case atStart => exact ⟨(0), (by first | rfl | (simp; done) | (simp [*]; done)), H', ⟨Nat.le_refl _⟩, ⟨by repeat (first | (with_reducible first | exact HB.out | apply below_alloc | apply pw_below_drewN | apply below_drew1) | exact HB.out)⟩⟩
        case round =>
          clear H'
          try clear c1
          try clear c2
          try clear p2
          try clear c3
          try clear c3b0
          try clear c3b1
          try clear c5
          try clear c5b0
          try clear c6
          try clear c6b0
          try clear p6
          try clear c7
          try clear c7b0
          try clear p8
          try clear q8
          try clear hx8
          try clear p9
          try clear q9
          try clear hx9
          try clear c10
          try clear c10b0
          try clear c10b1
          try clear p2
          try clear p6
          try clear p8
          try clear p9
          try clear q8
          try clear q9
          obtain ⟨x6_2, rfl, HA, HK2, HB⟩ := hrel
          cases gk with
          | zero => exact absurd HA.out (by simp [marginaliaref01_Diff.l1])
          | succ k2 =>
            have H := HA.out
            clear HA
            simp only [marginaliaref01_Diff.l1] at H
            by_cases c11 : x6_2 < (wrap64 ((a0.size : Int) - x5_3))
            · rw [if_pos c11] at H
              have c11b0 : decide (x6_2 < (wrap64 ((a0.size : Int) - x5_3))) = true := decide_eq_true c11
              clear c11
              by_cases c12 : x6_2 < (wrap64 ((a1.size : Int) - x5_3))
              · rw [if_pos c12] at H
                have c12b0 : decide (x6_2 < (wrap64 ((a1.size : Int) - x5_3))) = true := decide_eq_true c12
                clear c12
                obtain ⟨ji13, hji13⟩ : ∃ j_ : Int, (wrap64 ((wrap64 ((a0.size : Int) - 1)) - x6_2)) = j_ := ⟨_, rfl⟩
                replace H : (if 0 ≤ (ji13) then (if (ji13) < (a0.size : Int) then (if 0 ≤ (wrap64 ((wrap64 ((a1.size : Int) - 1)) - x6_2)) then (if (wrap64 ((wrap64 ((a1.size : Int) - 1)) - x6_2)) < (a1.size : Int) then (if (bt a0 (ji13)) = (bt a1 (wrap64 ((wrap64 ((a1.size : Int) - 1)) - x6_2))) then (marginaliaref01_Diff.l1 k2 a0 a1 x5_3 (wrap64 (x6_2 + 1))) else (if 0 ≤ x5_3 then (if x5_3 ≤ (wrap64 ((a1.size : Int) - x6_2)) then (if (wrap64 ((a1.size : Int) - x6_2)) ≤ (a1.size : Int) then (some (([(⟨x5_3, wrap64 ((a0.size : Int) - x6_2), a1.extract (x5_3 : Int).toNat ((wrap64 ((a1.size : Int) - x6_2)) : Int).toNat⟩ : S47)] : List (S47)))) else (none)) else (none)) else (none))) else (none)) else (none)) else (none)) else (none)) = some r := by first | (rw [hji13] at H; exact H) | (simp only [hji13] at H ⊢; exact H)
                have hji13w : (IntKind.i64.wrap ((wrap64 ((a0.size : Int) - 1)) - x6_2)) = ji13 := (i64_w _).trans hji13
                by_cases c14 : 0 ≤ (ji13)
                · rw [if_pos c14] at H
                  have c14b0 : decide (0 ≤ (ji13)) = true := decide_eq_true c14
                  clear c14
                  by_cases c15 : (ji13) < (a0.size : Int)
                  · rw [if_pos c15] at H
                    have c15b0 : decide ((ji13) < (a0.size : Int)) = true := decide_eq_true c15
                    clear c15
                    obtain ⟨ji17, hji17⟩ : ∃ j_ : Int, (wrap64 ((wrap64 ((a1.size : Int) - 1)) - x6_2)) = j_ := ⟨_, rfl⟩
                    replace H : (if 0 ≤ (ji17) then (if (ji17) < (a1.size : Int) then (if (bt a0 (ji13)) = (bt a1 (ji17)) then (marginaliaref01_Diff.l1 k2 a0 a1 x5_3 (wrap64 (x6_2 + 1))) else (if 0 ≤ x5_3 then (if x5_3 ≤ (wrap64 ((a1.size : Int) - x6_2)) then (if (wrap64 ((a1.size : Int) - x6_2)) ≤ (a1.size : Int) then (some (([(⟨x5_3, wrap64 ((a0.size : Int) - x6_2), a1.extract (x5_3 : Int).toNat ((wrap64 ((a1.size : Int) - x6_2)) : Int).toNat⟩ : S47)] : List (S47)))) else (none)) else (none)) else (none))) else (none)) else (none)) = some r := by first | (rw [hji17] at H; exact H) | (simp only [hji17] at H ⊢; exact H)
                    have hji17w : (IntKind.i64.wrap ((wrap64 ((a1.size : Int) - 1)) - x6_2)) = ji17 := (i64_w _).trans hji17
                    by_cases c18 : 0 ≤ (ji17)
                    · rw [if_pos c18] at H
                      have c18b0 : decide (0 ≤ (ji17)) = true := decide_eq_true c18
                      clear c18
                      by_cases c19 : (ji17) < (a1.size : Int)
                      · rw [if_pos c19] at H
                        have c19b0 : decide ((ji17) < (a1.size : Int)) = true := decide_eq_true c19
                        clear c19
                        by_cases c21 : (bt a0 (ji13)) = (bt a1 (ji17))
                        · rw [if_pos c21] at H
                          have c21b0 : ((bt a0 (ji13)) == (bt a1 (ji17))) = true := beq_iff_eq.mpr c21
                          have c21b1 : ((bt a0 (ji13)) != (bt a1 (ji17))) = false := bne_eq_false_iff_eq.mpr c21
                          clear c21
                          have H' := Aside0.mk H
                          clear H
                          have p16 : 0 ≤ ((ji13) : Int) := of_decide_eq_true (by first | (with_reducible assumption) | assumption)
                          have q16 : (ji13) < (a0.size : Int) := of_decide_eq_true (by first | (with_reducible assumption) | assumption)
                          have hx16 := bt_at a0 (ji13)
                          replace p16 := eq_true p16
                          replace q16 := eq_true q16
                          have p20 : 0 ≤ ((ji17) : Int) := of_decide_eq_true (by first | (with_reducible assumption) | assumption)
                          have q20 : (ji17) < (a1.size : Int) := of_decide_eq_true (by first | (with_reducible assumption) | assumption)
                          have hx20 := bt_at a1 (ji17)
                          replace p20 := eq_true p20
                          replace q20 := eq_true q20
                          go_wp2
                          repeat (go_quiet (fail); try go_wp2)
                          go_roundg k2
                          case measure => have := HJ3.out; have := HK2.out; omega
                          case rel => exact ⟨(wrap64 (x6_2 + 1)), (by first | rfl | (simp; done) | (simp [*]; done)), H', ⟨by have := HJ3.out; have := HK2.out; omega⟩, ⟨by repeat (first | (with_reducible first | exact HB.out | apply below_alloc | apply pw_below_drewN | apply below_drew1) | exact HB.out)⟩⟩
                        · rw [if_neg c21] at H
                          have c21b0 : ((bt a0 (ji13)) == (bt a1 (ji17))) = false := beq_eq_false_iff_ne.mpr c21
                          have c21b1 : ((bt a0 (ji13)) != (bt a1 (ji17))) = true := bne_iff_ne.mpr c21
                          by_cases c22 : 0 ≤ x5_3
                          · rw [if_pos c22] at H
                            have c22b0 := eq_true c22
                            have c22b1 : decide (0 ≤ x5_3) = true := decide_eq_true c22
                            clear c22
                            by_cases c23 : x5_3 ≤ (wrap64 ((a1.size : Int) - x6_2))
                            · rw [if_pos c23] at H
                              have c23b0 := eq_true c23
                              have c23b1 : decide (x5_3 ≤ (wrap64 ((a1.size : Int) - x6_2))) = true := decide_eq_true c23
                              clear c23
                              by_cases c24 : (wrap64 ((a1.size : Int) - x6_2)) ≤ (a1.size : Int)
                              · rw [if_pos c24] at H
                                have c24b0 := eq_true c24
                                have c24b1 : decide ((wrap64 ((a1.size : Int) - x6_2)) ≤ (a1.size : Int)) = true := decide_eq_true c24
                                clear c24
                                obtain ⟨y189, hy189⟩ : ∃ y_ : List (S47), y_ = (([(⟨x5_3, wrap64 ((a0.size : Int) - x6_2), a1.extract (x5_3 : Int).toNat ((wrap64 ((a1.size : Int) - x6_2)) : Int).toNat⟩ : S47)] : List (S47))) := ⟨_, rfl⟩
                                replace H : (some y189) = some r := by first | (rw [hy189]; with_reducible exact H) | (have H2_ := (Option.bind_some _ _).symm.trans H; rw [hy189]; with_reducible exact H2_) | (have H2_ := (Option.bind_some _ _).symm.trans H; with_reducible exact H2_) | with_reducible exact H | (rw [hy189]; exact H) | exact H
                                have Ny189 := Aside0.mk hy189
                                clear hy189
                                obtain rfl := Option.some.inj H
                                have p16 : 0 ≤ ((ji13) : Int) := of_decide_eq_true (by first | (with_reducible assumption) | assumption)
                                have q16 : (ji13) < (a0.size : Int) := of_decide_eq_true (by first | (with_reducible assumption) | assumption)
                                have hx16 := bt_at a0 (ji13)
                                replace p16 := eq_true p16
                                replace q16 := eq_true q16
                                have p20 : 0 ≤ ((ji17) : Int) := of_decide_eq_true (by first | (with_reducible assumption) | assumption)
                                have q20 : (ji17) < (a1.size : Int) := of_decide_eq_true (by first | (with_reducible assumption) | assumption)
                                have hx20 := bt_at a1 (ji17)
                                replace p20 := eq_true p20
                                replace q20 := eq_true q20
                                go_wp2_with (first | ((with_reducible refine gate_dst (N := 77) rfl ?_); (try (refine gate_guard (by rfl) ?_; dsimp only)); refine Kd.R_lit k47 _ 47 ?hg (N := 77) ?hd (xs := ([(⟨x5_3, wrap64 ((a0.size : Int) - x6_2), a1.extract (x5_3 : Int).toNat ((wrap64 ((a1.size : Int) - x6_2)) : Int).toNat⟩ : S47)] : List (S47))) (inner := [.int .i64 x5_3, .int .i64 (wrap64 ((a0.size : Int) - x6_2)), .string (a1.extract (x5_3 : Int).toNat ((wrap64 ((a1.size : Int) - x6_2)) : Int).toNat)]) (ok := fun _ => True) (okp := fun _ => True) ?hr ?hp (fun _ hk => hk) trivial (Below.refl _ _) (Nat.le_refl _) (by simp) ?_; (case hd => rfl); (case hg => rfl); (case hr => first | (go_simp; done) | (go_simp; rfl)); (case hp => exact (Reps.c3 (show Kd.M k47 _ _ _ (⟨x5_3, wrap64 ((a0.size : Int) - x6_2), a1.extract (x5_3 : Int).toNat ((wrap64 ((a1.size : Int) - x6_2)) : Int).toNat⟩ : S47) [.int .i64 x5_3, .int .i64 (wrap64 ((a0.size : Int) - x6_2)), .string (a1.extract (x5_3 : Int).toNat ((wrap64 ((a1.size : Int) - x6_2)) : Int).toNat)] from (k47_mkM _ _ _ (⟨x5_3, wrap64 ((a0.size : Int) - x6_2), a1.extract (x5_3 : Int).toNat ((wrap64 ((a1.size : Int) - x6_2)) : Int).toNat⟩ : S47) )) (Reps.none _ _))); intro v190 w25 ho26 hb hg_ hnew_; clear hg_ hnew_; (first | rw [← Ny189.out] at ho26 | (simp only [Int.reduceToNat] at ho26; rw [← Ny189.out] at ho26)); have n0_ := Aside0.mk (Kd.R_lower ho26 (below_size (by repeat (first | (with_reducible first | exact HB.out | apply below_alloc | apply pw_below_drewN | apply below_drew1) | exact HB.out)))); have n1_ := Aside0.mk (below_step (by repeat (first | (with_reducible first | exact HB.out | apply below_alloc | apply pw_below_drewN | apply below_drew1) | exact HB.out)) hb); clear HB; have HO191 := n0_; have HB := n1_; clear n0_ n1_; clear hb ho26))
                                repeat (go_quiet (first | ((with_reducible refine gate_dst (N := 77) rfl ?_); (try (refine gate_guard (by rfl) ?_; dsimp only)); refine Kd.R_lit k47 _ 47 ?hg (N := 77) ?hd (xs := ([(⟨x5_3, wrap64 ((a0.size : Int) - x6_2), a1.extract (x5_3 : Int).toNat ((wrap64 ((a1.size : Int) - x6_2)) : Int).toNat⟩ : S47)] : List (S47))) (inner := [.int .i64 x5_3, .int .i64 (wrap64 ((a0.size : Int) - x6_2)), .string (a1.extract (x5_3 : Int).toNat ((wrap64 ((a1.size : Int) - x6_2)) : Int).toNat)]) (ok := fun _ => True) (okp := fun _ => True) ?hr ?hp (fun _ hk => hk) trivial (Below.refl _ _) (Nat.le_refl _) (by simp) ?_; (case hd => rfl); (case hg => rfl); (case hr => first | (go_simp; done) | (go_simp; rfl)); (case hp => exact (Reps.c3 (show Kd.M k47 _ _ _ (⟨x5_3, wrap64 ((a0.size : Int) - x6_2), a1.extract (x5_3 : Int).toNat ((wrap64 ((a1.size : Int) - x6_2)) : Int).toNat⟩ : S47) [.int .i64 x5_3, .int .i64 (wrap64 ((a0.size : Int) - x6_2)), .string (a1.extract (x5_3 : Int).toNat ((wrap64 ((a1.size : Int) - x6_2)) : Int).toNat)] from (k47_mkM _ _ _ (⟨x5_3, wrap64 ((a0.size : Int) - x6_2), a1.extract (x5_3 : Int).toNat ((wrap64 ((a1.size : Int) - x6_2)) : Int).toNat⟩ : S47) )) (Reps.none _ _))); intro v190 w25 ho26 hb hg_ hnew_; clear hg_ hnew_; (first | rw [← Ny189.out] at ho26 | (simp only [Int.reduceToNat] at ho26; rw [← Ny189.out] at ho26)); have n0_ := Aside0.mk (Kd.R_lower ho26 (below_size (by repeat (first | (with_reducible first | exact HB.out | apply below_alloc | apply pw_below_drewN | apply below_drew1) | exact HB.out)))); have n1_ := Aside0.mk (below_step (by repeat (first | (with_reducible first | exact HB.out | apply below_alloc | apply pw_below_drewN | apply below_drew1) | exact HB.out)) hb); clear HB; have HO191 := n0_; have HB := n1_; clear n0_ n1_; clear hb ho26)); try go_wp2_with (first | ((with_reducible refine gate_dst (N := 77) rfl ?_); (try (refine gate_guard (by rfl) ?_; dsimp only)); refine Kd.R_lit k47 _ 47 ?hg (N := 77) ?hd (xs := ([(⟨x5_3, wrap64 ((a0.size : Int) - x6_2), a1.extract (x5_3 : Int).toNat ((wrap64 ((a1.size : Int) - x6_2)) : Int).toNat⟩ : S47)] : List (S47))) (inner := [.int .i64 x5_3, .int .i64 (wrap64 ((a0.size : Int) - x6_2)), .string (a1.extract (x5_3 : Int).toNat ((wrap64 ((a1.size : Int) - x6_2)) : Int).toNat)]) (ok := fun _ => True) (okp := fun _ => True) ?hr ?hp (fun _ hk => hk) trivial (Below.refl _ _) (Nat.le_refl _) (by simp) ?_; (case hd => rfl); (case hg => rfl); (case hr => first | (go_simp; done) | (go_simp; rfl)); (case hp => exact (Reps.c3 (show Kd.M k47 _ _ _ (⟨x5_3, wrap64 ((a0.size : Int) - x6_2), a1.extract (x5_3 : Int).toNat ((wrap64 ((a1.size : Int) - x6_2)) : Int).toNat⟩ : S47) [.int .i64 x5_3, .int .i64 (wrap64 ((a0.size : Int) - x6_2)), .string (a1.extract (x5_3 : Int).toNat ((wrap64 ((a1.size : Int) - x6_2)) : Int).toNat)] from (k47_mkM _ _ _ (⟨x5_3, wrap64 ((a0.size : Int) - x6_2), a1.extract (x5_3 : Int).toNat ((wrap64 ((a1.size : Int) - x6_2)) : Int).toNat⟩ : S47) )) (Reps.none _ _))); intro v190 w25 ho26 hb hg_ hnew_; clear hg_ hnew_; (first | rw [← Ny189.out] at ho26 | (simp only [Int.reduceToNat] at ho26; rw [← Ny189.out] at ho26)); have n0_ := Aside0.mk (Kd.R_lower ho26 (below_size (by repeat (first | (with_reducible first | exact HB.out | apply below_alloc | apply pw_below_drewN | apply below_drew1) | exact HB.out)))); have n1_ := Aside0.mk (below_step (by repeat (first | (with_reducible first | exact HB.out | apply below_alloc | apply pw_below_drewN | apply below_drew1) | exact HB.out)) hb); clear HB; have HO191 := n0_; have HB := n1_; clear n0_ n1_; clear hb ho26)))
                                go_ret
                                exact ⟨_, by first | rfl | (simp [errW_none, errW_some] <;> rfl) | (simp only [← hji13, ← hji17]; first | rfl | (simp [errW_none, errW_some] <;> rfl)) | (simp [*, errW_none, errW_some] <;> rfl), by (with_reducible repeat (first | apply Kd.R_alloc | apply Kd.R_drewN | apply Kd.R_drew)); exact HO191.out, by repeat (first | (with_reducible first | exact HB.out | apply below_alloc | apply pw_below_drewN | apply below_drew1) | exact HB.out)⟩
                              · rw [if_neg c24] at H
                                exact absurd H (by simp)
                            · rw [if_neg c23] at H
                              exact absurd H (by simp)
                          · rw [if_neg c22] at H
                            exact absurd H (by simp)
                      · rw [if_neg c19] at H
                        exact absurd H (by simp)
                    · rw [if_neg c18] at H
                      exact absurd H (by simp)
                  · rw [if_neg c15] at H
                    exact absurd H (by simp)
                · rw [if_neg c14] at H
                  exact absurd H (by simp)
              · rw [if_neg c12] at H
                have c12b0 : decide (x6_2 < (wrap64 ((a1.size : Int) - x5_3))) = false := decide_eq_false c12
                clear c12
                by_cases c27 : 0 ≤ x5_3
                · rw [if_pos c27] at H
                  have c27b0 := eq_true c27
                  have c27b1 : decide (0 ≤ x5_3) = true := decide_eq_true c27
                  clear c27
                  by_cases c28 : x5_3 ≤ (wrap64 ((a1.size : Int) - x6_2))
                  · rw [if_pos c28] at H
                    have c28b0 := eq_true c28
                    have c28b1 : decide (x5_3 ≤ (wrap64 ((a1.size : Int) - x6_2))) = true := decide_eq_true c28
                    clear c28
                    by_cases c29 : (wrap64 ((a1.size : Int) - x6_2)) ≤ (a1.size : Int)
                    · rw [if_pos c29] at H
                      have c29b0 := eq_true c29
                      have c29b1 : decide ((wrap64 ((a1.size : Int) - x6_2)) ≤ (a1.size : Int)) = true := decide_eq_true c29
                      clear c29
                      obtain ⟨y192, hy192⟩ : ∃ y_ : List (S47), y_ = (([(⟨x5_3, wrap64 ((a0.size : Int) - x6_2), a1.extract (x5_3 : Int).toNat ((wrap64 ((a1.size : Int) - x6_2)) : Int).toNat⟩ : S47)] : List (S47))) := ⟨_, rfl⟩
                      replace H : (some y192) = some r := by first | (rw [hy192]; with_reducible exact H) | (have H2_ := (Option.bind_some _ _).symm.trans H; rw [hy192]; with_reducible exact H2_) | (have H2_ := (Option.bind_some _ _).symm.trans H; with_reducible exact H2_) | with_reducible exact H | (rw [hy192]; exact H) | exact H
                      have Ny192 := Aside0.mk hy192
                      clear hy192
                      obtain rfl := Option.some.inj H
                      go_wp2_with (first | ((with_reducible refine gate_dst (N := 77) rfl ?_); (try (refine gate_guard (by rfl) ?_; dsimp only)); refine Kd.R_lit k47 _ 47 ?hg (N := 77) ?hd (xs := ([(⟨x5_3, wrap64 ((a0.size : Int) - x6_2), a1.extract (x5_3 : Int).toNat ((wrap64 ((a1.size : Int) - x6_2)) : Int).toNat⟩ : S47)] : List (S47))) (inner := [.int .i64 x5_3, .int .i64 (wrap64 ((a0.size : Int) - x6_2)), .string (a1.extract (x5_3 : Int).toNat ((wrap64 ((a1.size : Int) - x6_2)) : Int).toNat)]) (ok := fun _ => True) (okp := fun _ => True) ?hr ?hp (fun _ hk => hk) trivial (Below.refl _ _) (Nat.le_refl _) (by simp) ?_; (case hd => rfl); (case hg => rfl); (case hr => first | (go_simp; done) | (go_simp; rfl)); (case hp => exact (Reps.c3 (show Kd.M k47 _ _ _ (⟨x5_3, wrap64 ((a0.size : Int) - x6_2), a1.extract (x5_3 : Int).toNat ((wrap64 ((a1.size : Int) - x6_2)) : Int).toNat⟩ : S47) [.int .i64 x5_3, .int .i64 (wrap64 ((a0.size : Int) - x6_2)), .string (a1.extract (x5_3 : Int).toNat ((wrap64 ((a1.size : Int) - x6_2)) : Int).toNat)] from (k47_mkM _ _ _ (⟨x5_3, wrap64 ((a0.size : Int) - x6_2), a1.extract (x5_3 : Int).toNat ((wrap64 ((a1.size : Int) - x6_2)) : Int).toNat⟩ : S47) )) (Reps.none _ _))); intro v193 w30 ho31 hb hg_ hnew_; clear hg_ hnew_; (first | rw [← Ny192.out] at ho31 | (simp only [Int.reduceToNat] at ho31; rw [← Ny192.out] at ho31)); have n0_ := Aside0.mk (Kd.R_lower ho31 (below_size (by repeat (first | (with_reducible first | exact HB.out | apply below_alloc | apply pw_below_drewN | apply below_drew1) | exact HB.out)))); have n1_ := Aside0.mk (below_step (by repeat (first | (with_reducible first | exact HB.out | apply below_alloc | apply pw_below_drewN | apply below_drew1) | exact HB.out)) hb); clear HB; have HO194 := n0_; have HB := n1_; clear n0_ n1_; clear hb ho31))
                      repeat (go_quiet (first | ((with_reducible refine gate_dst (N := 77) rfl ?_); (try (refine gate_guard (by rfl) ?_; dsimp only)); refine Kd.R_lit k47 _ 47 ?hg (N := 77) ?hd (xs := ([(⟨x5_3, wrap64 ((a0.size : Int) - x6_2), a1.extract (x5_3 : Int).toNat ((wrap64 ((a1.size : Int) - x6_2)) : Int).toNat⟩ : S47)] : List (S47))) (inner := [.int .i64 x5_3, .int .i64 (wrap64 ((a0.size : Int) - x6_2)), .string (a1.extract (x5_3 : Int).toNat ((wrap64 ((a1.size : Int) - x6_2)) : Int).toNat)]) (ok := fun _ => True) (okp := fun _ => True) ?hr ?hp (fun _ hk => hk) trivial (Below.refl _ _) (Nat.le_refl _) (by simp) ?_; (case hd => rfl); (case hg => rfl); (case hr => first | (go_simp; done) | (go_simp; rfl)); (case hp => exact (Reps.c3 (show Kd.M k47 _ _ _ (⟨x5_3, wrap64 ((a0.size : Int) - x6_2), a1.extract (x5_3 : Int).toNat ((wrap64 ((a1.size : Int) - x6_2)) : Int).toNat⟩ : S47) [.int .i64 x5_3, .int .i64 (wrap64 ((a0.size : Int) - x6_2)), .string (a1.extract (x5_3 : Int).toNat ((wrap64 ((a1.size : Int) - x6_2)) : Int).toNat)] from (k47_mkM _ _ _ (⟨x5_3, wrap64 ((a0.size : Int) - x6_2), a1.extract (x5_3 : Int).toNat ((wrap64 ((a1.size : Int) - x6_2)) : Int).toNat⟩ : S47) )) (Reps.none _ _))); intro v193 w30 ho31 hb hg_ hnew_; clear hg_ hnew_; (first | rw [← Ny192.out] at ho31 | (simp only [Int.reduceToNat] at ho31; rw [← Ny192.out] at ho31)); have n0_ := Aside0.mk (Kd.R_lower ho31 (below_size (by repeat (first | (with_reducible first | exact HB.out | apply below_alloc | apply pw_below_drewN | apply below_drew1) | exact HB.out)))); have n1_ := Aside0.mk (below_step (by repeat (first | (with_reducible first | exact HB.out | apply below_alloc | apply pw_below_drewN | apply below_drew1) | exact HB.out)) hb); clear HB; have HO194 := n0_; have HB := n1_; clear n0_ n1_; clear hb ho31)); try go_wp2_with (first | ((with_reducible refine gate_dst (N := 77) rfl ?_); (try (refine gate_guard (by rfl) ?_; dsimp only)); refine Kd.R_lit k47 _ 47 ?hg (N := 77) ?hd (xs := ([(⟨x5_3, wrap64 ((a0.size : Int) - x6_2), a1.extract (x5_3 : Int).toNat ((wrap64 ((a1.size : Int) - x6_2)) : Int).toNat⟩ : S47)] : List (S47))) (inner := [.int .i64 x5_3, .int .i64 (wrap64 ((a0.size : Int) - x6_2)), .string (a1.extract (x5_3 : Int).toNat ((wrap64 ((a1.size : Int) - x6_2)) : Int).toNat)]) (ok := fun _ => True) (okp := fun _ => True) ?hr ?hp (fun _ hk => hk) trivial (Below.refl _ _) (Nat.le_refl _) (by simp) ?_; (case hd => rfl); (case hg => rfl); (case hr => first | (go_simp; done) | (go_simp; rfl)); (case hp => exact (Reps.c3 (show Kd.M k47 _ _ _ (⟨x5_3, wrap64 ((a0.size : Int) - x6_2), a1.extract (x5_3 : Int).toNat ((wrap64 ((a1.size : Int) - x6_2)) : Int).toNat⟩ : S47) [.int .i64 x5_3, .int .i64 (wrap64 ((a0.size : Int) - x6_2)), .string (a1.extract (x5_3 : Int).toNat ((wrap64 ((a1.size : Int) - x6_2)) : Int).toNat)] from (k47_mkM _ _ _ (⟨x5_3, wrap64 ((a0.size : Int) - x6_2), a1.extract (x5_3 : Int).toNat ((wrap64 ((a1.size : Int) - x6_2)) : Int).toNat⟩ : S47) )) (Reps.none _ _))); intro v193 w30 ho31 hb hg_ hnew_; clear hg_ hnew_; (first | rw [← Ny192.out] at ho31 | (simp only [Int.reduceToNat] at ho31; rw [← Ny192.out] at ho31)); have n0_ := Aside0.mk (Kd.R_lower ho31 (below_size (by repeat (first | (with_reducible first | exact HB.out | apply below_alloc | apply pw_below_drewN | apply below_drew1) | exact HB.out)))); have n1_ := Aside0.mk (below_step (by repeat (first | (with_reducible first | exact HB.out | apply below_alloc | apply pw_below_drewN | apply below_drew1) | exact HB.out)) hb); clear HB; have HO194 := n0_; have HB := n1_; clear n0_ n1_; clear hb ho31)))
                      go_ret
                      exact ⟨_, by first | rfl | (simp [errW_none, errW_some] <;> rfl) | (simp [*, errW_none, errW_some] <;> rfl), by (with_reducible repeat (first | apply Kd.R_alloc | apply Kd.R_drewN | apply Kd.R_drew)); exact HO194.out, by repeat (first | (with_reducible first | exact HB.out | apply below_alloc | apply pw_below_drewN | apply below_drew1) | exact HB.out)⟩
                    · rw [if_neg c29] at H
                      exact absurd H (by simp)
                  · rw [if_neg c28] at H
                    exact absurd H (by simp)
                · rw [if_neg c27] at H
                  exact absurd H (by simp)
            · rw [if_neg c11] at H
              have c11b0 : decide (x6_2 < (wrap64 ((a0.size : Int) - x5_3))) = false := decide_eq_false c11
              clear c11
              by_cases c32 : 0 ≤ x5_3
              · rw [if_pos c32] at H
                have c32b0 := eq_true c32
                have c32b1 : decide (0 ≤ x5_3) = true := decide_eq_true c32
                clear c32
                by_cases c33 : x5_3 ≤ (wrap64 ((a1.size : Int) - x6_2))
                · rw [if_pos c33] at H
                  have c33b0 := eq_true c33
                  have c33b1 : decide (x5_3 ≤ (wrap64 ((a1.size : Int) - x6_2))) = true := decide_eq_true c33
                  clear c33
                  by_cases c34 : (wrap64 ((a1.size : Int) - x6_2)) ≤ (a1.size : Int)
                  · rw [if_pos c34] at H
                    have c34b0 := eq_true c34
                    have c34b1 : decide ((wrap64 ((a1.size : Int) - x6_2)) ≤ (a1.size : Int)) = true := decide_eq_true c34
                    clear c34
                    obtain ⟨y195, hy195⟩ : ∃ y_ : List (S47), y_ = (([(⟨x5_3, wrap64 ((a0.size : Int) - x6_2), a1.extract (x5_3 : Int).toNat ((wrap64 ((a1.size : Int) - x6_2)) : Int).toNat⟩ : S47)] : List (S47))) := ⟨_, rfl⟩
                    replace H : (some y195) = some r := by first | (rw [hy195]; with_reducible exact H) | (have H2_ := (Option.bind_some _ _).symm.trans H; rw [hy195]; with_reducible exact H2_) | (have H2_ := (Option.bind_some _ _).symm.trans H; with_reducible exact H2_) | with_reducible exact H | (rw [hy195]; exact H) | exact H
                    have Ny195 := Aside0.mk hy195
                    clear hy195
                    obtain rfl := Option.some.inj H
                    go_wp2_with (first | ((with_reducible refine gate_dst (N := 77) rfl ?_); (try (refine gate_guard (by rfl) ?_; dsimp only)); refine Kd.R_lit k47 _ 47 ?hg (N := 77) ?hd (xs := ([(⟨x5_3, wrap64 ((a0.size : Int) - x6_2), a1.extract (x5_3 : Int).toNat ((wrap64 ((a1.size : Int) - x6_2)) : Int).toNat⟩ : S47)] : List (S47))) (inner := [.int .i64 x5_3, .int .i64 (wrap64 ((a0.size : Int) - x6_2)), .string (a1.extract (x5_3 : Int).toNat ((wrap64 ((a1.size : Int) - x6_2)) : Int).toNat)]) (ok := fun _ => True) (okp := fun _ => True) ?hr ?hp (fun _ hk => hk) trivial (Below.refl _ _) (Nat.le_refl _) (by simp) ?_; (case hd => rfl); (case hg => rfl); (case hr => first | (go_simp; done) | (go_simp; rfl)); (case hp => exact (Reps.c3 (show Kd.M k47 _ _ _ (⟨x5_3, wrap64 ((a0.size : Int) - x6_2), a1.extract (x5_3 : Int).toNat ((wrap64 ((a1.size : Int) - x6_2)) : Int).toNat⟩ : S47) [.int .i64 x5_3, .int .i64 (wrap64 ((a0.size : Int) - x6_2)), .string (a1.extract (x5_3 : Int).toNat ((wrap64 ((a1.size : Int) - x6_2)) : Int).toNat)] from (k47_mkM _ _ _ (⟨x5_3, wrap64 ((a0.size : Int) - x6_2), a1.extract (x5_3 : Int).toNat ((wrap64 ((a1.size : Int) - x6_2)) : Int).toNat⟩ : S47) )) (Reps.none _ _))); intro v196 w35 ho36 hb hg_ hnew_; clear hg_ hnew_; (first | rw [← Ny195.out] at ho36 | (simp only [Int.reduceToNat] at ho36; rw [← Ny195.out] at ho36)); have n0_ := Aside0.mk (Kd.R_lower ho36 (below_size (by repeat (first | (with_reducible first | exact HB.out | apply below_alloc | apply pw_below_drewN | apply below_drew1) | exact HB.out)))); have n1_ := Aside0.mk (below_step (by repeat (first | (with_reducible first | exact HB.out | apply below_alloc | apply pw_below_drewN | apply below_drew1) | exact HB.out)) hb); clear HB; have HO197 := n0_; have HB := n1_; clear n0_ n1_; clear hb ho36))
                    repeat (go_quiet (first | ((with_reducible refine gate_dst (N := 77) rfl ?_); (try (refine gate_guard (by rfl) ?_; dsimp only)); refine Kd.R_lit k47 _ 47 ?hg (N := 77) ?hd (xs := ([(⟨x5_3, wrap64 ((a0.size : Int) - x6_2), a1.extract (x5_3 : Int).toNat ((wrap64 ((a1.size : Int) - x6_2)) : Int).toNat⟩ : S47)] : List (S47))) (inner := [.int .i64 x5_3, .int .i64 (wrap64 ((a0.size : Int) - x6_2)), .string (a1.extract (x5_3 : Int).toNat ((wrap64 ((a1.size : Int) - x6_2)) : Int).toNat)]) (ok := fun _ => True) (okp := fun _ => True) ?hr ?hp (fun _ hk => hk) trivial (Below.refl _ _) (Nat.le_refl _) (by simp) ?_; (case hd => rfl); (case hg => rfl); (case hr => first | (go_simp; done) | (go_simp; rfl)); (case hp => exact (Reps.c3 (show Kd.M k47 _ _ _ (⟨x5_3, wrap64 ((a0.size : Int) - x6_2), a1.extract (x5_3 : Int).toNat ((wrap64 ((a1.size : Int) - x6_2)) : Int).toNat⟩ : S47) [.int .i64 x5_3, .int .i64 (wrap64 ((a0.size : Int) - x6_2)), .string (a1.extract (x5_3 : Int).toNat ((wrap64 ((a1.size : Int) - x6_2)) : Int).toNat)] from (k47_mkM _ _ _ (⟨x5_3, wrap64 ((a0.size : Int) - x6_2), a1.extract (x5_3 : Int).toNat ((wrap64 ((a1.size : Int) - x6_2)) : Int).toNat⟩ : S47) )) (Reps.none _ _))); intro v196 w35 ho36 hb hg_ hnew_; clear hg_ hnew_; (first | rw [← Ny195.out] at ho36 | (simp only [Int.reduceToNat] at ho36; rw [← Ny195.out] at ho36)); have n0_ := Aside0.mk (Kd.R_lower ho36 (below_size (by repeat (first | (with_reducible first | exact HB.out | apply below_alloc | apply pw_below_drewN | apply below_drew1) | exact HB.out)))); have n1_ := Aside0.mk (below_step (by repeat (first | (with_reducible first | exact HB.out | apply below_alloc | apply pw_below_drewN | apply below_drew1) | exact HB.out)) hb); clear HB; have HO197 := n0_; have HB := n1_; clear n0_ n1_; clear hb ho36)); try go_wp2_with (first | ((with_reducible refine gate_dst (N := 77) rfl ?_); (try (refine gate_guard (by rfl) ?_; dsimp only)); refine Kd.R_lit k47 _ 47 ?hg (N := 77) ?hd (xs := ([(⟨x5_3, wrap64 ((a0.size : Int) - x6_2), a1.extract (x5_3 : Int).toNat ((wrap64 ((a1.size : Int) - x6_2)) : Int).toNat⟩ : S47)] : List (S47))) (inner := [.int .i64 x5_3, .int .i64 (wrap64 ((a0.size : Int) - x6_2)), .string (a1.extract (x5_3 : Int).toNat ((wrap64 ((a1.size : Int) - x6_2)) : Int).toNat)]) (ok := fun _ => True) (okp := fun _ => True) ?hr ?hp (fun _ hk => hk) trivial (Below.refl _ _) (Nat.le_refl _) (by simp) ?_; (case hd => rfl); (case hg => rfl); (case hr => first | (go_simp; done) | (go_simp; rfl)); (case hp => exact (Reps.c3 (show Kd.M k47 _ _ _ (⟨x5_3, wrap64 ((a0.size : Int) - x6_2), a1.extract (x5_3 : Int).toNat ((wrap64 ((a1.size : Int) - x6_2)) : Int).toNat⟩ : S47) [.int .i64 x5_3, .int .i64 (wrap64 ((a0.size : Int) - x6_2)), .string (a1.extract (x5_3 : Int).toNat ((wrap64 ((a1.size : Int) - x6_2)) : Int).toNat)] from (k47_mkM _ _ _ (⟨x5_3, wrap64 ((a0.size : Int) - x6_2), a1.extract (x5_3 : Int).toNat ((wrap64 ((a1.size : Int) - x6_2)) : Int).toNat⟩ : S47) )) (Reps.none _ _))); intro v196 w35 ho36 hb hg_ hnew_; clear hg_ hnew_; (first | rw [← Ny195.out] at ho36 | (simp only [Int.reduceToNat] at ho36; rw [← Ny195.out] at ho36)); have n0_ := Aside0.mk (Kd.R_lower ho36 (below_size (by repeat (first | (with_reducible first | exact HB.out | apply below_alloc | apply pw_below_drewN | apply below_drew1) | exact HB.out)))); have n1_ := Aside0.mk (below_step (by repeat (first | (with_reducible first | exact HB.out | apply below_alloc | apply pw_below_drewN | apply below_drew1) | exact HB.out)) hb); clear HB; have HO197 := n0_; have HB := n1_; clear n0_ n1_; clear hb ho36)))
                    go_ret
                    exact ⟨_, by first | rfl | (simp [errW_none, errW_some] <;> rfl) | (simp [*, errW_none, errW_some] <;> rfl), by (with_reducible repeat (first | apply Kd.R_alloc | apply Kd.R_drewN | apply Kd.R_drew)); exact HO197.out, by repeat (first | (with_reducible first | exact HB.out | apply below_alloc | apply pw_below_drewN | apply below_drew1) | exact HB.out)⟩
                  · rw [if_neg c34] at H
                    exact absurd H (by simp)
                · rw [if_neg c33] at H
                  exact absurd H (by simp)
              · rw [if_neg c32] at H
                exact absurd H (by simp)

end Go.Proofs.Ytfllpoonfhiipaa.P
