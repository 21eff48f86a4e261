/- What the claim's row needs of the seat's texts, part 2: put together by a program of this session (declarations that no text of the claim names are left out). -/
import Derived.Lib.AppendZerosOnto
import Derived.Outline
import Derived.Deep.RegionLawGrows
import Derived.Deep.RegionHeld3
import Derived.Deep.DeepCutAuto
import Derived.Lib.SliceRun
import Derived.Test.YtfllpoonfhiipaaU1
namespace Go.Proofs.Ytfllpoonfhiipaa.P
open Go.RowKit Go.Proofs.YtfllpoonfhiipaaW.PrintWords Go.Proofs.YtfllpoonfhiipaaW.PrintLast Go.Proofs.YtfllpoonfhiipaaW.PrintMore
attribute [local go_sem] max2_int min2_int max_two min_two max_three min_three max_four min_four
set_option linter.unusedVariables false
set_option linter.unusedSimpArgs false

/-! ### rope_Move: function 25 -/
mutual
def rope_Move.j0 : Nat → List (S47) → Int → Bool → Bool → Option (Int × Int)
  | 0, _, _, _, _ => none
  | k + 1, x0, x1, x2, x22 => if x22 = true then (some (0, 2)) else (rope_Move.l0 k x1 x2 0 x0 (x0.length : Int) 0)
def rope_Move.l0 : Nat → Int → Bool → Int → List (S47) → Int → Int → Option (Int × Int)
  | 0, _, _, _, _, _, _ => none
  | k + 1, x1, x2, x9, x23, x24, x25 => if x25 < x24 then (if 0 ≤ x25 then (if x25 < (x23.length : Int) then (if ((rd_T47 x23 x25).f0) > x1 then (rope_Move.j2 k x1 x2 x9 x23 x24 x25 (decide (((rd_T47 x23 x25).f0) > x1)) ((rd_T47 x23 x25).f0) ((rd_T47 x23 x25).f1) ((rd_T47 x23 x25).f2)) else (if ((rd_T47 x23 x25).f0) = x1 then (if ((rd_T47 x23 x25).f1) > x1 then (rope_Move.j2 k x1 x2 x9 x23 x24 x25 (decide (((rd_T47 x23 x25).f1) > x1)) ((rd_T47 x23 x25).f0) ((rd_T47 x23 x25).f1) ((rd_T47 x23 x25).f2)) else (if ((rd_T47 x23 x25).f1) = x1 then (rope_Move.j2 k x1 x2 x9 x23 x24 x25 (!x2) ((rd_T47 x23 x25).f0) ((rd_T47 x23 x25).f1) ((rd_T47 x23 x25).f2)) else (rope_Move.j2 k x1 x2 x9 x23 x24 x25 false ((rd_T47 x23 x25).f0) ((rd_T47 x23 x25).f1) ((rd_T47 x23 x25).f2)))) else (if ((rd_T47 x23 x25).f1) = x1 then (rope_Move.j2 k x1 x2 x9 x23 x24 x25 false ((rd_T47 x23 x25).f0) ((rd_T47 x23 x25).f1) ((rd_T47 x23 x25).f2)) else (rope_Move.j2 k x1 x2 x9 x23 x24 x25 false ((rd_T47 x23 x25).f0) ((rd_T47 x23 x25).f1) ((rd_T47 x23 x25).f2))))) else (none)) else (none)) else (some (wrap64 (x1 + x9), 0))
def rope_Move.j2 : Nat → Int → Bool → Int → List (S47) → Int → Int → Bool → Int → Int → ByteArray → Option (Int × Int)
  | 0, _, _, _, _, _, _, _, _, _, _ => none
  | k + 1, x1, x2, x9, x23, x24, x25, x29, x127000, x127001, x127002 => if x29 = true then (some (wrap64 (x1 + x9), 0)) else (if x127001 > x1 then (some (wrap64 ((wrap64 (x127000 + x9)) + (x127002.size : Int)), 0)) else (rope_Move.l0 k x1 x2 (wrap64 (x9 + (wrap64 ((x127002.size : Int) - (wrap64 (x127001 - x127000)))))) x23 x24 (wrap64 (x25 + 1))))
end
def rope_Move.f (k : Nat) (l0 : List (S47)) (a1 : Int) (a2 : Bool) : Option (Int × Int) := (rope_spans.f k 20000 l0).bind fun t124 => (if t124 = 0 then (if a1 < 0 then (rope_Move.j0 k l0 a1 a2 true) else (rope_Move.j0 k l0 a1 a2 (decide (a1 > 20000)))) else (some (0, t124)))
set_option maxHeartbeats 8000000 in
set_option maxRecDepth 100000 in
theorem rope_Move.calls (k : Nat) (A0 : Option Addr) (c0 : Nat) (l0 : List (S47)) (a1 : Int) (a2 : Bool) (r1 : Int) (r2 : Int) (w : World) (hr0 : Kd.C k47 w A0 l0.length l0) (hc0 : l0.length ≤ c0) (h : rope_Move.f k l0 a1 a2 = some (r1, r2)) :
    Calls Try.prog 25 #[.slice A0 l0.length c0, .int .i64 a1, .bool a2] w fun e w' => e = .returned (.tuple #[.int .i64 r1, .int .i64 r2]) ∧ Below w.heap.size w w' := by
  have hu47 := Try.underlying47
  have HR0 := Aside0.mk hr0
  have HC0 := Aside0.mk hc0
  clear hr0 hc0
  have HB := Aside0.mk (Below.refl w.heap.size w)
  have H : ((rope_spans.f k 20000 l0).bind fun t124 => (if t124 = 0 then (if a1 < 0 then (rope_Move.j0 k l0 a1 a2 true) else (rope_Move.j0 k l0 a1 a2 (decide (a1 > 20000)))) else (some (0, t124)))) = some (r1, r2) := h
  clear h
  replace H := Option.bind_eq_some_iff.mp H
  obtain ⟨t124, A40, H⟩ := H
  replace H : (if t124 = 0 then (if a1 < 0 then (rope_Move.j0 k l0 a1 a2 true) else (rope_Move.j0 k l0 a1 a2 (decide (a1 > 20000)))) else (some (0, t124))) = some (r1, r2) := H
  have A4 := Aside0.mk A40
  clear A40
  by_cases c5 : t124 = 0
  · rw [if_pos c5] at H
    have c5b0 : (t124 == 0) = true := beq_iff_eq.mpr c5
    have c5b1 : (t124 != 0) = false := bne_eq_false_iff_eq.mpr c5
    clear c5
    have HC6 := Aside0.mk H
    clear H
    go_enter Try.func25, Try.ntmps25
    go_upto_region 4 with (first | ((with_reducible refine gate_callee (f := 48) rfl ?_); refine goesL_ (some 13) rfl rfl Try.func48 (by kernel_rfl) rfl #[.int .i64 20000, .slice A0 l0.length c0] rfl (by (try simp only [List.map_toArray, List.map_cons, List.map_nil]); first | done | rfl | (simp only [List.length_drop, List.length_take]; rfl)) ?_; (with_reducible refine (rope_spans.calls k 20000 _ _ l0 t124 _ ?side1 ?side2 A4.out).mono ?_); (case side1 => repeat (first | exact HR0.out | (with_reducible refine Kd.C_alloc ?_ _) | (with_reducible refine Kd.C_drewN ?_ _) | (with_reducible refine Kd.C_drew ?_))); (case side2 => exact HC0.out); rintro e w7 ⟨rfl, hb⟩; refine ⟨_, rfl, ?_⟩; have n0_ := Aside0.mk (below_step (by repeat (first | (with_reducible first | exact HB.out | apply below_alloc | apply pw_below_drewN | apply below_drew1) | exact HB.out)) hb); clear HB; have HB := n0_; clear n0_; (try clear hb); (try clear hb2); (try clear hk); (try clear hi)))
    (try simp only [Act.put, List.setIfInBounds_toArray, List.set_cons_zero, List.set_cons_succ])
    go_cut [22] (fun v22 wc => ∃ (kq : Nat) (x22_5 : Bool), v22 = .bool x22_5 ∧ Aside0 (rope_Move.j0 kq l0 a1 a2 x22_5 = some (r1, r2)) ∧ Aside0 (kq ≤ k) ∧ Aside0 (Below w.heap.size w wc))
    case first =>
      have H := HC6.out
      clear HC6
      by_cases c8 : a1 < 0
      · rw [if_pos c8] at H
        have c8b0 : decide (a1 < 0) = true := decide_eq_true c8
        clear c8
        (first | rw [c8b0] | (simp only [i64_w, i32_w]; rw [c8b0]) | skip)
        have H' := Aside0.mk H
        clear H
        go_wp2
        go_meet
        case rel => exact ⟨_, (true), (by first | rfl | (simp; done) | (simp [*]; done)), H', ⟨by first | omega | exact Nat.le_refl _⟩, ⟨by repeat (first | (with_reducible first | exact HB.out | apply below_alloc | apply pw_below_drewN | apply below_drew1) | exact HB.out)⟩⟩
      · rw [if_neg c8] at H
        have c8b0 : decide (a1 < 0) = false := decide_eq_false c8
        clear c8
        (first | rw [c8b0] | (simp only [i64_w, i32_w]; rw [c8b0]) | skip)
        have H' := Aside0.mk H
        clear H
        go_wp2
        go_meet
        case rel => exact ⟨_, (decide (a1 > 20000)), (by first | rfl | (simp; done) | (simp [*]; done)), H', ⟨by first | omega | exact Nat.le_refl _⟩, ⟨by repeat (first | (with_reducible first | exact HB.out | apply below_alloc | apply pw_below_drewN | apply below_drew1) | exact HB.out)⟩⟩
    case rest =>
      clear HC6
      try clear c2
      try clear p2
      try clear c4
      try clear c5
      try clear c5b0
      try clear c5b1
      try clear c8
      try clear c8b0
      obtain ⟨kq, x22_5, rfl, HA, HJ5, HB⟩ := hcut
      cases kq with
      | zero => exact absurd HA.out (by simp [rope_Move.j0])
      | succ kj5 =>
        have H := HA.out
        clear HA
        simp only [rope_Move.j0] at H
        by_cases c9 : x22_5 = true
        · subst c9
          have H1 : (some (0, 2)) = some (r1, r2) := by rw [if_pos rfl] at H; exact H
          clear H
          have H := H1
          clear H1
          simp only [Option.some.injEq, Prod.mk.injEq] at H
          obtain ⟨rfl, rfl⟩ := H
          go_wp2
          go_ret2
          exact ⟨by first | rfl | (simp [errW_none, errW_some] <;> rfl) | (simp [*, errW_none, errW_some] <;> rfl), by repeat (first | (with_reducible first | exact HB.out | apply below_alloc | apply pw_below_drewN | apply below_drew1) | exact HB.out)⟩
        · replace c9 := Bool.eq_false_iff.mpr c9
          subst c9
          have H1 : (rope_Move.l0 kj5 a1 a2 0 l0 (l0.length : Int) 0) = some (r1, r2) := by rw [if_neg (show ¬ (false = true) by decide)] at H; exact H
          clear H
          have H := H1
          clear H1
          have H' := Aside0.mk H
          clear H
          go_wp2
          go_loopg [9, 25] kj5 (fun kq v9 v25 w' => ∃ (x9_2 : Int) (x25_2 : Int), v9 = .int .i64 x9_2 ∧ v25 = .int .i64 x25_2 ∧ Aside0 (rope_Move.l0 kq a1 a2 x9_2 l0 (l0.length : Int) x25_2 = some (r1, r2)) ∧ Aside0 (kq ≤ kj5) ∧ Aside0 (Below w.heap.size w w'))
          case atStart => exact ⟨(0), (0), (by first | rfl | (simp; done) | (simp [*]; done)), (by first | rfl | (simp; done) | (simp [*]; done)), H', ⟨Nat.le_refl _⟩, ⟨by repeat (first | (with_reducible first | exact HB.out | apply below_alloc | apply pw_below_drewN | apply below_drew1) | exact HB.out)⟩⟩
          case round =>
            clear H'
            try clear c2
            try clear p2
            try clear c4
            try clear c5
            try clear c5b0
            try clear c5b1
            try clear c8
            try clear c8b0
            try clear c9
            try clear p2
            obtain ⟨x9_2, x25_2, rfl, rfl, HA, HK2, HB⟩ := hrel
            cases gk with
            | zero => exact absurd HA.out (by simp [rope_Move.l0])
            | succ k2 =>
              have H := HA.out
              clear HA
              simp only [rope_Move.l0] at H
              by_cases c10 : x25_2 < (l0.length : Int)
              · rw [if_pos c10] at H
                have c10b0 : decide (x25_2 < (l0.length : Int)) = true := decide_eq_true c10
                clear c10
                by_cases c11 : 0 ≤ x25_2
                · rw [if_pos c11] at H
                  have c11b0 : decide (0 ≤ x25_2) = true := decide_eq_true c11
                  clear c11
                  by_cases c12 : x25_2 < (l0.length : Int)
                  · rw [if_pos c12] at H
                    have c12b0 : decide (x25_2 < (l0.length : Int)) = true := decide_eq_true c12
                    clear c12
                    have HC13 := Aside0.mk H
                    clear H
                    have p125 : 0 ≤ (x25_2 : Int) := of_decide_eq_true (by first | (with_reducible assumption) | assumption)
                    have q125 : x25_2 < (l0.length : Int) := of_decide_eq_true (by first | (with_reducible assumption) | assumption)
                    obtain ⟨ad125, e125, hx125_0, hx125_1, hx125_2⟩ := at_T47 HR0.out x25_2 p125 q125
                    cases e125
                    replace hx125_0 := (HB.out.cell (World.block_lt_of_cell? w _ hx125_0)).trans hx125_0
                    replace hx125_1 := (HB.out.cell (World.block_lt_of_cell? w _ hx125_1)).trans hx125_1
                    replace hx125_2 := (HB.out.cell (World.block_lt_of_cell? w _ hx125_2)).trans hx125_2
                    replace p125 := eq_true p125
                    replace q125 := eq_true q125
                    go_upto_if 29 with (first | ((with_reducible refine gate_dst (N := 11) rfl ?_); refine box_event ?hg (N := 11) ?hd (cs := #[.int .i64 0, .int .i64 0, .string (⟨#[]⟩ : ByteArray)]) (t := 47) ?hr ?_; (case hd => rfl); (case hg => rfl); (case hr => first | (go_simp; done) | (go_simp; rfl)); intro gb126 hg w14 hbox hb; have n0_ := Aside0.mk (below_step (by repeat (first | (with_reducible first | exact HB.out | apply below_alloc | apply pw_below_drewN | apply below_drew1) | exact HB.out)) hb); have n1_ := Aside0.mk (hbox); have n2_ := Aside0.mk ((by rw [hg]; exact (below_size (by repeat (first | (with_reducible first | exact HB.out | apply below_alloc | apply pw_below_drewN | apply below_drew1) | exact HB.out))) : w.heap.size ≤ gb126)); have n3_ := Aside0.mk ((by rw [hg]; exact (below_size (by repeat (first | (with_reducible first | exact HB.out | apply below_alloc | apply pw_below_drewN | apply below_drew1) | exact HB.out))) : w.heap.size ≤ gb126)); clear HB; have HB := n0_; have BK126 := n1_; have GW126 := n2_; have GE126 := n3_; clear n0_ n1_ n2_ n3_; clear hb hbox hg; have hcz15_0 : w14.cell? ⟨gb126, 0, none⟩ = some (.int .i64 0) := (blk_cell BK126.out 0).trans rfl; have hcz15_1 : w14.cell? ⟨gb126, 1, none⟩ = some (.int .i64 0) := (blk_cell BK126.out 1).trans rfl; have hcz15_2 : w14.cell? ⟨gb126, 2, none⟩ = some (.string (⟨#[]⟩ : ByteArray)) := (blk_cell BK126.out 2).trans rfl; have hfz15_0 := blk_frozen BK126.out 0; have hfz15_1 := blk_frozen BK126.out 1; have hfz15_2 := blk_frozen BK126.out 2))
                    (try simp only [Act.put, List.setIfInBounds_toArray, List.set_cons_zero, List.set_cons_succ])
                    go_cut [29] (fun v29 wc => ∃ (kq : Nat) (x29_12 : Bool), v29 = .bool x29_12 ∧ Aside0 (rope_Move.j2 kq a1 a2 x9_2 l0 (l0.length : Int) x25_2 x29_12 ((rd_T47 l0 x25_2).f0) ((rd_T47 l0 x25_2).f1) ((rd_T47 l0 x25_2).f2) = some (r1, r2)) ∧ Aside0 (kq ≤ k2) ∧ Aside0 (wc.heap[gb126]? = some (.cells #[.int .i64 ((rd_T47 l0 x25_2).f0), .int .i64 ((rd_T47 l0 x25_2).f1), .string ((rd_T47 l0 x25_2).f2)] 47 (0, 0))) ∧ Aside0 (Below w.heap.size w wc))
                    case first =>
                      have H := HC13.out
                      clear HC13
                      by_cases c16 : ((rd_T47 l0 x25_2).f0) > a1
                      · rw [if_pos c16] at H
                        have c16b0 : decide (a1 < ((rd_T47 l0 x25_2).f0)) = true := decide_eq_true c16
                        clear c16
                        (first | rw [c16b0] | (simp only [i64_w, i32_w]; rw [c16b0]) | skip)
                        have H' := Aside0.mk H
                        clear H
                        go_wp2
                        go_meet
                        case rel => exact ⟨_, (decide (((rd_T47 l0 x25_2).f0) > a1)), (by first | rfl | (simp; done) | (simp [*]; done)), H', ⟨by have := HJ5.out; have := HK2.out; first | omega | exact Nat.le_refl _⟩, ⟨by (with_reducible repeat (first | refine blk_drewN ?_ _ | refine blk_drew ?_ | refine blk_alloc ?_ _)); refine blk_put (cs := #[.int .i64 ((rd_T47 l0 x25_2).f0), .int .i64 ((rd_T47 l0 x25_2).f1), .string (⟨#[]⟩ : ByteArray)]) ?_ 2 _ rfl; (with_reducible repeat (first | refine blk_drewN ?_ _ | refine blk_drew ?_ | refine blk_alloc ?_ _)); refine blk_put (cs := #[.int .i64 ((rd_T47 l0 x25_2).f0), .int .i64 0, .string (⟨#[]⟩ : ByteArray)]) ?_ 1 _ rfl; (with_reducible repeat (first | refine blk_drewN ?_ _ | refine blk_drew ?_ | refine blk_alloc ?_ _)); refine blk_put (cs := #[.int .i64 0, .int .i64 0, .string (⟨#[]⟩ : ByteArray)]) ?_ 0 _ rfl; (with_reducible repeat (first | refine blk_drewN ?_ _ | refine blk_drew ?_ | refine blk_alloc ?_ _)); exact BK126.out⟩, ⟨by repeat (first | (with_reducible first | exact HB.out | apply below_alloc | apply pw_below_drewN | apply below_drew1 | refine below_set ?_ GE126.out) | exact HB.out)⟩⟩
                      · rw [if_neg c16] at H
                        have c16b0 : decide (a1 < ((rd_T47 l0 x25_2).f0)) = false := decide_eq_false c16
                        clear c16
                        (first | rw [c16b0] | (simp only [i64_w, i32_w]; rw [c16b0]) | skip)
                        by_cases c17 : ((rd_T47 l0 x25_2).f0) = a1
                        · rw [if_pos c17] at H
                          have c17b0 : (((rd_T47 l0 x25_2).f0) == a1) = true := beq_iff_eq.mpr c17
                          have c17b1 : (((rd_T47 l0 x25_2).f0) != a1) = false := bne_eq_false_iff_eq.mpr c17
                          clear c17
                          by_cases c18 : ((rd_T47 l0 x25_2).f1) > a1
                          · rw [if_pos c18] at H
                            have c18b0 : decide (a1 < ((rd_T47 l0 x25_2).f1)) = true := decide_eq_true c18
                            clear c18
                            have H' := Aside0.mk H
                            clear H
                            have hcz19_0 : w14.cell? ⟨gb126, 0, none⟩ = some (.int .i64 0) := (blk_cell BK126.out 0).trans rfl
                            have hcz19_1 : w14.cell? ⟨gb126, 1, none⟩ = some (.int .i64 0) := (blk_cell BK126.out 1).trans rfl
                            have hcz19_2 : w14.cell? ⟨gb126, 2, none⟩ = some (.string (⟨#[]⟩ : ByteArray)) := (blk_cell BK126.out 2).trans rfl
                            have hfz19_0 := blk_frozen BK126.out 0
                            have hfz19_1 := blk_frozen BK126.out 1
                            have hfz19_2 := blk_frozen BK126.out 2
                            go_wp2
                            go_meet
                            case rel => exact ⟨_, (decide (((rd_T47 l0 x25_2).f1) > a1)), (by first | rfl | (simp; done) | (simp [*]; done)), H', ⟨by have := HJ5.out; have := HK2.out; first | omega | exact Nat.le_refl _⟩, ⟨by (with_reducible repeat (first | refine blk_drewN ?_ _ | refine blk_drew ?_ | refine blk_alloc ?_ _)); refine blk_put (cs := #[.int .i64 ((rd_T47 l0 x25_2).f0), .int .i64 ((rd_T47 l0 x25_2).f1), .string (⟨#[]⟩ : ByteArray)]) ?_ 2 _ rfl; (with_reducible repeat (first | refine blk_drewN ?_ _ | refine blk_drew ?_ | refine blk_alloc ?_ _)); refine blk_put (cs := #[.int .i64 ((rd_T47 l0 x25_2).f0), .int .i64 0, .string (⟨#[]⟩ : ByteArray)]) ?_ 1 _ rfl; (with_reducible repeat (first | refine blk_drewN ?_ _ | refine blk_drew ?_ | refine blk_alloc ?_ _)); refine blk_put (cs := #[.int .i64 0, .int .i64 0, .string (⟨#[]⟩ : ByteArray)]) ?_ 0 _ rfl; (with_reducible repeat (first | refine blk_drewN ?_ _ | refine blk_drew ?_ | refine blk_alloc ?_ _)); exact BK126.out⟩, ⟨by repeat (first | (with_reducible first | exact HB.out | apply below_alloc | apply pw_below_drewN | apply below_drew1 | refine below_set ?_ GE126.out) | exact HB.out)⟩⟩
                          · rw [if_neg c18] at H
                            have c18b0 : decide (a1 < ((rd_T47 l0 x25_2).f1)) = false := decide_eq_false c18
                            clear c18
                            by_cases c20 : ((rd_T47 l0 x25_2).f1) = a1
                            · rw [if_pos c20] at H
                              have c20b0 : (((rd_T47 l0 x25_2).f1) == a1) = true := beq_iff_eq.mpr c20
                              have c20b1 : (((rd_T47 l0 x25_2).f1) != a1) = false := bne_eq_false_iff_eq.mpr c20
                              clear c20
                              have H' := Aside0.mk H
                              clear H
                              have hcz21_0 : w14.cell? ⟨gb126, 0, none⟩ = some (.int .i64 0) := (blk_cell BK126.out 0).trans rfl
                              have hcz21_1 : w14.cell? ⟨gb126, 1, none⟩ = some (.int .i64 0) := (blk_cell BK126.out 1).trans rfl
                              have hcz21_2 : w14.cell? ⟨gb126, 2, none⟩ = some (.string (⟨#[]⟩ : ByteArray)) := (blk_cell BK126.out 2).trans rfl
                              have hfz21_0 := blk_frozen BK126.out 0
                              have hfz21_1 := blk_frozen BK126.out 1
                              have hfz21_2 := blk_frozen BK126.out 2
                              go_wp2
                              go_meet
                              case rel => exact ⟨_, (!a2), (by first | rfl | (simp; done) | (simp [*]; done)), H', ⟨by have := HJ5.out; have := HK2.out; first | omega | exact Nat.le_refl _⟩, ⟨by (with_reducible repeat (first | refine blk_drewN ?_ _ | refine blk_drew ?_ | refine blk_alloc ?_ _)); refine blk_put (cs := #[.int .i64 ((rd_T47 l0 x25_2).f0), .int .i64 ((rd_T47 l0 x25_2).f1), .string (⟨#[]⟩ : ByteArray)]) ?_ 2 _ rfl; (with_reducible repeat (first | refine blk_drewN ?_ _ | refine blk_drew ?_ | refine blk_alloc ?_ _)); refine blk_put (cs := #[.int .i64 ((rd_T47 l0 x25_2).f0), .int .i64 0, .string (⟨#[]⟩ : ByteArray)]) ?_ 1 _ rfl; (with_reducible repeat (first | refine blk_drewN ?_ _ | refine blk_drew ?_ | refine blk_alloc ?_ _)); refine blk_put (cs := #[.int .i64 0, .int .i64 0, .string (⟨#[]⟩ : ByteArray)]) ?_ 0 _ rfl; (with_reducible repeat (first | refine blk_drewN ?_ _ | refine blk_drew ?_ | refine blk_alloc ?_ _)); exact BK126.out⟩, ⟨by repeat (first | (with_reducible first | exact HB.out | apply below_alloc | apply pw_below_drewN | apply below_drew1 | refine below_set ?_ GE126.out) | exact HB.out)⟩⟩
                            · rw [if_neg c20] at H
                              have c20b0 : (((rd_T47 l0 x25_2).f1) == a1) = false := beq_eq_false_iff_ne.mpr c20
                              have c20b1 : (((rd_T47 l0 x25_2).f1) != a1) = true := bne_iff_ne.mpr c20
                              have H' := Aside0.mk H
                              clear H
                              have hcz22_0 : w14.cell? ⟨gb126, 0, none⟩ = some (.int .i64 0) := (blk_cell BK126.out 0).trans rfl
                              have hcz22_1 : w14.cell? ⟨gb126, 1, none⟩ = some (.int .i64 0) := (blk_cell BK126.out 1).trans rfl
                              have hcz22_2 : w14.cell? ⟨gb126, 2, none⟩ = some (.string (⟨#[]⟩ : ByteArray)) := (blk_cell BK126.out 2).trans rfl
                              have hfz22_0 := blk_frozen BK126.out 0
                              have hfz22_1 := blk_frozen BK126.out 1
                              have hfz22_2 := blk_frozen BK126.out 2
                              go_wp2
                              go_meet
                              case rel => exact ⟨_, (false), (by first | rfl | (simp; done) | (simp [*]; done)), H', ⟨by have := HJ5.out; have := HK2.out; first | omega | exact Nat.le_refl _⟩, ⟨by (with_reducible repeat (first | refine blk_drewN ?_ _ | refine blk_drew ?_ | refine blk_alloc ?_ _)); refine blk_put (cs := #[.int .i64 ((rd_T47 l0 x25_2).f0), .int .i64 ((rd_T47 l0 x25_2).f1), .string (⟨#[]⟩ : ByteArray)]) ?_ 2 _ rfl; (with_reducible repeat (first | refine blk_drewN ?_ _ | refine blk_drew ?_ | refine blk_alloc ?_ _)); refine blk_put (cs := #[.int .i64 ((rd_T47 l0 x25_2).f0), .int .i64 0, .string (⟨#[]⟩ : ByteArray)]) ?_ 1 _ rfl; (with_reducible repeat (first | refine blk_drewN ?_ _ | refine blk_drew ?_ | refine blk_alloc ?_ _)); refine blk_put (cs := #[.int .i64 0, .int .i64 0, .string (⟨#[]⟩ : ByteArray)]) ?_ 0 _ rfl; (with_reducible repeat (first | refine blk_drewN ?_ _ | refine blk_drew ?_ | refine blk_alloc ?_ _)); exact BK126.out⟩, ⟨by repeat (first | (with_reducible first | exact HB.out | apply below_alloc | apply pw_below_drewN | apply below_drew1 | refine below_set ?_ GE126.out) | exact HB.out)⟩⟩
                        · rw [if_neg c17] at H
                          have c17b0 : (((rd_T47 l0 x25_2).f0) == a1) = false := beq_eq_false_iff_ne.mpr c17
                          have c17b1 : (((rd_T47 l0 x25_2).f0) != a1) = true := bne_iff_ne.mpr c17
                          by_cases c23 : ((rd_T47 l0 x25_2).f1) = a1
                          · rw [if_pos c23] at H
                            have c23b0 : (((rd_T47 l0 x25_2).f1) == a1) = true := beq_iff_eq.mpr c23
                            have c23b1 : (((rd_T47 l0 x25_2).f1) != a1) = false := bne_eq_false_iff_eq.mpr c23
                            clear c23
                            have H' := Aside0.mk H
                            clear H
                            have hcz24_0 : w14.cell? ⟨gb126, 0, none⟩ = some (.int .i64 0) := (blk_cell BK126.out 0).trans rfl
                            have hcz24_1 : w14.cell? ⟨gb126, 1, none⟩ = some (.int .i64 0) := (blk_cell BK126.out 1).trans rfl
                            have hcz24_2 : w14.cell? ⟨gb126, 2, none⟩ = some (.string (⟨#[]⟩ : ByteArray)) := (blk_cell BK126.out 2).trans rfl
                            have hfz24_0 := blk_frozen BK126.out 0
                            have hfz24_1 := blk_frozen BK126.out 1
                            have hfz24_2 := blk_frozen BK126.out 2
                            go_wp2
                            go_meet
                            case rel => exact ⟨_, (false), (by first | rfl | (simp; done) | (simp [*]; done)), H', ⟨by have := HJ5.out; have := HK2.out; first | omega | exact Nat.le_refl _⟩, ⟨by (with_reducible repeat (first | refine blk_drewN ?_ _ | refine blk_drew ?_ | refine blk_alloc ?_ _)); refine blk_put (cs := #[.int .i64 ((rd_T47 l0 x25_2).f0), .int .i64 ((rd_T47 l0 x25_2).f1), .string (⟨#[]⟩ : ByteArray)]) ?_ 2 _ rfl; (with_reducible repeat (first | refine blk_drewN ?_ _ | refine blk_drew ?_ | refine blk_alloc ?_ _)); refine blk_put (cs := #[.int .i64 ((rd_T47 l0 x25_2).f0), .int .i64 0, .string (⟨#[]⟩ : ByteArray)]) ?_ 1 _ rfl; (with_reducible repeat (first | refine blk_drewN ?_ _ | refine blk_drew ?_ | refine blk_alloc ?_ _)); refine blk_put (cs := #[.int .i64 0, .int .i64 0, .string (⟨#[]⟩ : ByteArray)]) ?_ 0 _ rfl; (with_reducible repeat (first | refine blk_drewN ?_ _ | refine blk_drew ?_ | refine blk_alloc ?_ _)); exact BK126.out⟩, ⟨by repeat (first | (with_reducible first | exact HB.out | apply below_alloc | apply pw_below_drewN | apply below_drew1 | refine below_set ?_ GE126.out) | exact HB.out)⟩⟩
                          · rw [if_neg c23] at H
                            have c23b0 : (((rd_T47 l0 x25_2).f1) == a1) = false := beq_eq_false_iff_ne.mpr c23
                            have c23b1 : (((rd_T47 l0 x25_2).f1) != a1) = true := bne_iff_ne.mpr c23
                            have H' := Aside0.mk H
                            clear H
                            have hcz25_0 : w14.cell? ⟨gb126, 0, none⟩ = some (.int .i64 0) := (blk_cell BK126.out 0).trans rfl
                            have hcz25_1 : w14.cell? ⟨gb126, 1, none⟩ = some (.int .i64 0) := (blk_cell BK126.out 1).trans rfl
                            have hcz25_2 : w14.cell? ⟨gb126, 2, none⟩ = some (.string (⟨#[]⟩ : ByteArray)) := (blk_cell BK126.out 2).trans rfl
                            have hfz25_0 := blk_frozen BK126.out 0
                            have hfz25_1 := blk_frozen BK126.out 1
                            have hfz25_2 := blk_frozen BK126.out 2
                            go_wp2
                            go_meet
                            case rel => exact ⟨_, (false), (by first | rfl | (simp; done) | (simp [*]; done)), H', ⟨by have := HJ5.out; have := HK2.out; first | omega | exact Nat.le_refl _⟩, ⟨by (with_reducible repeat (first | refine blk_drewN ?_ _ | refine blk_drew ?_ | refine blk_alloc ?_ _)); refine blk_put (cs := #[.int .i64 ((rd_T47 l0 x25_2).f0), .int .i64 ((rd_T47 l0 x25_2).f1), .string (⟨#[]⟩ : ByteArray)]) ?_ 2 _ rfl; (with_reducible repeat (first | refine blk_drewN ?_ _ | refine blk_drew ?_ | refine blk_alloc ?_ _)); refine blk_put (cs := #[.int .i64 ((rd_T47 l0 x25_2).f0), .int .i64 0, .string (⟨#[]⟩ : ByteArray)]) ?_ 1 _ rfl; (with_reducible repeat (first | refine blk_drewN ?_ _ | refine blk_drew ?_ | refine blk_alloc ?_ _)); refine blk_put (cs := #[.int .i64 0, .int .i64 0, .string (⟨#[]⟩ : ByteArray)]) ?_ 0 _ rfl; (with_reducible repeat (first | refine blk_drewN ?_ _ | refine blk_drew ?_ | refine blk_alloc ?_ _)); exact BK126.out⟩, ⟨by repeat (first | (with_reducible first | exact HB.out | apply below_alloc | apply pw_below_drewN | apply below_drew1 | refine below_set ?_ GE126.out) | exact HB.out)⟩⟩
                    case rest =>
                      clear HC13
                      try clear c1
                      try clear p1
                      try clear q1
                      try clear hx1
                      try clear c2
                      try clear p2
                      try clear c4
                      try clear c5
                      try clear c5b0
                      try clear c5b1
                      try clear c8
                      try clear c8b0
                      try clear c9
                      try clear c10
                      try clear c10b0
                      try clear c11
                      try clear c11b0
                      try clear c12
                      try clear c12b0
                      try clear p12
                      try clear q12
                      try clear hx12
                      try clear c16
                      try clear c16b0
                      try clear c17
                      try clear c17b0
                      try clear c17b1
                      try clear c18
                      try clear c18b0
                      try clear c20
                      try clear c20b0
                      try clear c20b1
                      try clear c23
                      try clear c23b0
                      try clear c23b1
                      try clear c25
                      try clear hcz15_0
                      try clear hcz15_1
                      try clear hcz15_2
                      try clear hcz19_0
                      try clear hcz19_1
                      try clear hcz19_2
                      try clear hcz21_0
                      try clear hcz21_1
                      try clear hcz21_2
                      try clear hcz22_0
                      try clear hcz22_1
                      try clear hcz22_2
                      try clear hcz24_0
                      try clear hcz24_1
                      try clear hcz24_2
                      try clear hcz25_0
                      try clear hcz25_1
                      try clear hcz25_2
                      try clear hfz15_0
                      try clear hfz15_1
                      try clear hfz15_2
                      try clear hfz19_0
                      try clear hfz19_1
                      try clear hfz19_2
                      try clear hfz21_0
                      try clear hfz21_1
                      try clear hfz21_2
                      try clear hfz22_0
                      try clear hfz22_1
                      try clear hfz22_2
                      try clear hfz24_0
                      try clear hfz24_1
                      try clear hfz24_2
                      try clear hfz25_0
                      try clear hfz25_1
                      try clear hfz25_2
                      try clear hx125_0
                      try clear hx125_1
                      try clear hx125_2
                      try clear p125
                      try clear p2
                      try clear q125
                      obtain ⟨kq, x29_12, rfl, HA, HJ12, BK126, HB⟩ := hcut
                      cases kq with
                      | zero => exact absurd HA.out (by simp [rope_Move.j2])
                      | succ kj12 =>
                        have H := HA.out
                        clear HA
                        simp only [rope_Move.j2] at H
                        by_cases c26 : x29_12 = true
                        · subst c26
                          have H1 : (some (wrap64 (a1 + x9_2), 0)) = some (r1, r2) := by rw [if_pos rfl] at H; exact H
                          clear H
                          have H := H1
                          clear H1
                          simp only [Option.some.injEq, Prod.mk.injEq] at H
                          obtain ⟨rfl, rfl⟩ := H
                          go_wp2
                          go_ret2
                          exact ⟨by first | rfl | (simp [errW_none, errW_some] <;> rfl) | (simp [*, errW_none, errW_some] <;> rfl), by repeat (first | (with_reducible first | exact HB.out | apply below_alloc | apply pw_below_drewN | apply below_drew1 | refine below_set ?_ GE126.out) | exact HB.out)⟩
                        · replace c26 := Bool.eq_false_iff.mpr c26
                          subst c26
                          have H1 : (if ((rd_T47 l0 x25_2).f1) > a1 then (some (wrap64 ((wrap64 (((rd_T47 l0 x25_2).f0) + x9_2)) + (((rd_T47 l0 x25_2).f2).size : Int)), 0)) else (rope_Move.l0 kj12 a1 a2 (wrap64 (x9_2 + (wrap64 ((((rd_T47 l0 x25_2).f2).size : Int) - (wrap64 (((rd_T47 l0 x25_2).f1) - ((rd_T47 l0 x25_2).f0))))))) l0 (l0.length : Int) (wrap64 (x25_2 + 1)))) = some (r1, r2) := by rw [if_neg (show ¬ (false = true) by decide)] at H; exact H
                          clear H
                          have H := H1
                          clear H1
                          by_cases c27 : ((rd_T47 l0 x25_2).f1) > a1
                          · rw [if_pos c27] at H
                            have c27b0 : decide (a1 < ((rd_T47 l0 x25_2).f1)) = true := decide_eq_true c27
                            clear c27
                            simp only [Option.some.injEq, Prod.mk.injEq] at H
                            obtain ⟨rfl, rfl⟩ := H
                            have hcz28_0 : wc.cell? ⟨gb126, 0, none⟩ = some (.int .i64 ((rd_T47 l0 x25_2).f0)) := (blk_cell BK126.out 0).trans rfl
                            have hcz28_1 : wc.cell? ⟨gb126, 1, none⟩ = some (.int .i64 ((rd_T47 l0 x25_2).f1)) := (blk_cell BK126.out 1).trans rfl
                            have hcz28_2 : wc.cell? ⟨gb126, 2, none⟩ = some (.string ((rd_T47 l0 x25_2).f2)) := (blk_cell BK126.out 2).trans rfl
                            have hfz28_0 := blk_frozen BK126.out 0
                            have hfz28_1 := blk_frozen BK126.out 1
                            have hfz28_2 := blk_frozen BK126.out 2
                            go_wp2
                            go_ret2
                            exact ⟨by first | rfl | (simp [errW_none, errW_some] <;> rfl) | (simp [*, errW_none, errW_some] <;> rfl), by repeat (first | (with_reducible first | exact HB.out | apply below_alloc | apply pw_below_drewN | apply below_drew1 | refine below_set ?_ GE126.out) | exact HB.out)⟩
                          · rw [if_neg c27] at H
                            have c27b0 : decide (a1 < ((rd_T47 l0 x25_2).f1)) = false := decide_eq_false c27
                            clear c27
                            have H' := Aside0.mk H
                            clear H
                            have hcz29_0 : wc.cell? ⟨gb126, 0, none⟩ = some (.int .i64 ((rd_T47 l0 x25_2).f0)) := (blk_cell BK126.out 0).trans rfl
                            have hcz29_1 : wc.cell? ⟨gb126, 1, none⟩ = some (.int .i64 ((rd_T47 l0 x25_2).f1)) := (blk_cell BK126.out 1).trans rfl
                            have hcz29_2 : wc.cell? ⟨gb126, 2, none⟩ = some (.string ((rd_T47 l0 x25_2).f2)) := (blk_cell BK126.out 2).trans rfl
                            have hfz29_0 := blk_frozen BK126.out 0
                            have hfz29_1 := blk_frozen BK126.out 1
                            have hfz29_2 := blk_frozen BK126.out 2
                            go_wp2
                            go_roundg kj12
                            case measure => have := HJ5.out; have := HK2.out; have := HJ12.out; omega
                            case rel => exact ⟨(wrap64 (x9_2 + (wrap64 ((((rd_T47 l0 x25_2).f2).size : Int) - (wrap64 (((rd_T47 l0 x25_2).f1) - ((rd_T47 l0 x25_2).f0))))))), (wrap64 (x25_2 + 1)), (by first | rfl | (simp; done) | (simp [*]; done)), (by first | rfl | (simp; done) | (simp [*]; done)), H', ⟨by have := HJ5.out; have := HK2.out; have := HJ12.out; omega⟩, ⟨by repeat (first | (with_reducible first | exact HB.out | apply below_alloc | apply pw_below_drewN | apply below_drew1 | refine below_set ?_ GE126.out) | exact HB.out)⟩⟩
                  · rw [if_neg c12] at H
                    exact absurd H (by simp)
                · rw [if_neg c11] at H
                  exact absurd H (by simp)
              · rw [if_neg c10] at H
                have c10b0 : decide (x25_2 < (l0.length : Int)) = false := decide_eq_false c10
                clear c10
                simp only [Option.some.injEq, Prod.mk.injEq] at H
                obtain ⟨rfl, rfl⟩ := H
                go_wp2
                go_ret2
                exact ⟨by first | rfl | (simp [errW_none, errW_some] <;> rfl) | (simp [*, errW_none, errW_some] <;> rfl), by repeat (first | (with_reducible first | exact HB.out | apply below_alloc | apply pw_below_drewN | apply below_drew1) | exact HB.out)⟩
  · rw [if_neg c5] at H
    have c5b0 : (t124 == 0) = false := beq_eq_false_iff_ne.mpr c5
    have c5b1 : (t124 != 0) = true := bne_iff_ne.mpr c5
    simp only [Option.some.injEq, Prod.mk.injEq] at H
    obtain ⟨rfl, rfl⟩ := H
    go_enter Try.func25, Try.ntmps25
    go_wp2_with (first | ((with_reducible refine gate_callee (f := 48) rfl ?_); refine goesL_ (some 13) rfl rfl Try.func48 (by kernel_rfl) rfl #[.int .i64 20000, .slice A0 l0.length c0] rfl (by (try simp only [List.map_toArray, List.map_cons, List.map_nil]); first | done | rfl | (simp only [List.length_drop, List.length_take]; rfl)) ?_; (with_reducible refine (rope_spans.calls k 20000 _ _ l0 t124 _ ?side1 ?side2 A4.out).mono ?_); (case side1 => repeat (first | exact HR0.out | (with_reducible refine Kd.C_alloc ?_ _) | (with_reducible refine Kd.C_drewN ?_ _) | (with_reducible refine Kd.C_drew ?_))); (case side2 => exact HC0.out); rintro e w30 ⟨rfl, hb⟩; refine ⟨_, rfl, ?_⟩; have n0_ := Aside0.mk (below_step (by repeat (first | (with_reducible first | exact HB.out | apply below_alloc | apply pw_below_drewN | apply below_drew1) | exact HB.out)) hb); clear HB; have HB := n0_; clear n0_; (try clear hb); (try clear hb2); (try clear hk); (try clear hi)))
    go_ret2
    exact ⟨by first | rfl | (simp [errW_none, errW_some] <;> rfl) | (simp [*, errW_none, errW_some] <;> rfl), by repeat (first | (with_reducible first | exact HB.out | apply below_alloc | apply pw_below_drewN | apply below_drew1) | exact HB.out)⟩

end Go.Proofs.Ytfllpoonfhiipaa.P

namespace Go.Proofs.Ytfllpoonfhiipaa.P
open Go.RowKit Go.Proofs.YtfllpoonfhiipaaW.PrintWords Go.Proofs.YtfllpoonfhiipaaW.PrintLast Go.Proofs.YtfllpoonfhiipaaW.PrintMore
attribute [local go_sem] max2_int min2_int max_two min_two max_three min_three max_four min_four
set_option linter.unusedVariables false
set_option linter.unusedSimpArgs false

/-! ### rope_Diff: function 28 -/
mutual
def rope_Diff.j1 : Nat → ByteArray → ByteArray → Int → Option ((List (S47)) × Int)
  | 0, _, _, _ => none
  | k + 1, x0, x1, x6 => rope_Diff.l1 k x0 x1 x6 0
def rope_Diff.l1 : Nat → ByteArray → ByteArray → Int → Int → Option ((List (S47)) × Int)
  | 0, _, _, _, _ => none
  | k + 1, x0, x1, x6, x7 => if x7 < (wrap64 ((mn (x0.size : Int) (x1.size : Int)) - x6)) then (if 0 ≤ (wrap64 ((wrap64 ((x0.size : Int) - 1)) - x7)) then (if (wrap64 ((wrap64 ((x0.size : Int) - 1)) - x7)) < (x0.size : Int) then (if 0 ≤ (wrap64 ((wrap64 ((x1.size : Int) - 1)) - x7)) then (if (wrap64 ((wrap64 ((x1.size : Int) - 1)) - x7)) < (x1.size : Int) then (if (bt x0 (wrap64 ((wrap64 ((x0.size : Int) - 1)) - x7))) = (bt x1 (wrap64 ((wrap64 ((x1.size : Int) - 1)) - x7))) then (rope_Diff.l1 k x0 x1 x6 (wrap64 (x7 + 1))) else (if 0 ≤ x6 then (if x6 ≤ (wrap64 ((x1.size : Int) - x7)) then (if (wrap64 ((x1.size : Int) - x7)) ≤ (x1.size : Int) then (some ((([(⟨x6, wrap64 ((x0.size : Int) - x7), x1.extract (x6 : Int).toNat ((wrap64 ((x1.size : Int) - x7)) : Int).toNat⟩ : S47)] : List (S47))), 0)) else (none)) else (none)) else (none))) else (none)) else (none)) else (none)) else (none)) else (if 0 ≤ x6 then (if x6 ≤ (wrap64 ((x1.size : Int) - x7)) then (if (wrap64 ((x1.size : Int) - x7)) ≤ (x1.size : Int) then (some ((([(⟨x6, wrap64 ((x0.size : Int) - x7), x1.extract (x6 : Int).toNat ((wrap64 ((x1.size : Int) - x7)) : Int).toNat⟩ : S47)] : List (S47))), 0)) else (none)) else (none)) else (none))
def rope_Diff.l0 : Nat → ByteArray → ByteArray → Int → Option ((List (S47)) × Int)
  | 0, _, _, _ => none
  | k + 1, x0, x1, x6 => if x6 < (mn (x0.size : Int) (x1.size : Int)) then (if 0 ≤ x6 then (if x6 < (x0.size : Int) then (if x6 < (x1.size : Int) then (if (bt x0 x6) = (bt x1 x6) then (rope_Diff.l0 k x0 x1 (wrap64 (x6 + 1))) else (rope_Diff.j1 k x0 x1 x6)) else (none)) else (none)) else (none)) else (rope_Diff.j1 k x0 x1 x6)
end
def rope_Diff.f (k : Nat) (a0 : ByteArray) (a1 : ByteArray) : Option ((List (S47)) × Int) := if (mx (a0.size : Int) (a1.size : Int)) > 20000 then (some (([] : List (S47)), 3)) else (if a0.toList = a1.toList then (some (([] : List (S47)), 0)) else (rope_Diff.l0 k a0 a1 0))
set_option maxHeartbeats 8000000 in
set_option maxRecDepth 100000 in
theorem rope_Diff.calls (k : Nat) (a0 : ByteArray) (a1 : ByteArray) (r1 : List (S47)) (r2 : Int) (w : World) (h : rope_Diff.f k a0 a1 = some (r1, r2)) :
    Calls Try.prog 28 #[.string a0, .string a1] w fun e w' => ∃ v0_ : Value, e = .returned (.tuple #[v0_, .int .i64 r2]) ∧ Kd.R k47 47 w' w.heap.size (fun _ => True) v0_ r1 ∧ Below w.heap.size w w' := by
  have hu47 := Try.underlying47
  have HB := Aside0.mk (Below.refl w.heap.size w)
  have H : (if (mx (a0.size : Int) (a1.size : Int)) > 20000 then (some (([] : List (S47)), 3)) else (if a0.toList = a1.toList then (some (([] : List (S47)), 0)) else (rope_Diff.l0 k a0 a1 0))) = some (r1, r2) := h
  clear h
  obtain ⟨ji3, hji3⟩ : ∃ j_ : Int, (mx (a0.size : Int) (a1.size : Int)) = j_ := ⟨_, rfl⟩
  replace H : (if (ji3) > 20000 then (some (([] : List (S47)), 3)) else (if a0.toList = a1.toList then (some (([] : List (S47)), 0)) else (rope_Diff.l0 k a0 a1 0))) = some (r1, r2) := by first | (rw [hji3] at H; exact H) | (simp only [hji3] at H ⊢; exact H)
  (try (have hji3l : 0 ≤ ji3 := by (rw [← hji3]; unfold mx; (repeat' split) <;> omega)))
  (try (have hji3m : 0 ≤ ji3 := by omega))
  have hji3_ : (if (a0.size : Int) < (a1.size : Int) then (a1.size : Int) else (a0.size : Int)) = ji3 := hji3
  have hji3n : (if a0.size < a1.size then (a1.size : Int) else (a0.size : Int)) = ji3 := by rw [← hji3]; unfold mx; (repeat' split) <;> omega
  by_cases c4 : (ji3) > 20000
  · rw [if_pos c4] at H
    have c4b0 : decide (20000 < (ji3)) = true := decide_eq_true c4
    clear c4
    simp only [Option.some.injEq, Prod.mk.injEq] at H
    obtain ⟨rfl, rfl⟩ := H
    go_enter Try.func28, Try.ntmps28
    go_wp2
    repeat (go_quiet (fail); try go_wp2)
    go_ret2
    exact ⟨_, by first | rfl | (simp [errW_none, errW_some] <;> rfl) | (simp only [← hji3]; first | rfl | (simp [errW_none, errW_some] <;> rfl)) | (simp [*, errW_none, errW_some] <;> rfl), by first | exact Kd.R_nil _ _ _ _ _ | exact Kd.N_nil _ _ _ _ _ | exact Kd.V_nil _ _ _ _ _ | exact Kd.Q_nil _ _ _ _ _ | exact Kd.S_nil _ _ _ _ _, by repeat (first | (with_reducible first | exact HB.out | apply below_alloc | apply pw_below_drewN | apply below_drew1) | exact HB.out)⟩
  · rw [if_neg c4] at H
    have c4b0 : decide (20000 < (ji3)) = false := decide_eq_false c4
    clear c4
    by_cases c5 : a0.toList = a1.toList
    · rw [if_pos c5] at H
      have c5b0 : (a0.toList == a1.toList) = true := beq_iff_eq.mpr c5
      have c5b1 : (a0.toList != a1.toList) = false := bne_eq_false_iff_eq.mpr c5
      clear c5
      simp only [Option.some.injEq, Prod.mk.injEq] at H
      obtain ⟨rfl, rfl⟩ := H
      go_enter Try.func28, Try.ntmps28
      go_wp2
      repeat (go_quiet (fail); try go_wp2)
      go_ret2
      exact ⟨_, by first | rfl | (simp [errW_none, errW_some] <;> rfl) | (simp only [← hji3]; first | rfl | (simp [errW_none, errW_some] <;> rfl)) | (simp [*, errW_none, errW_some] <;> rfl), by first | exact Kd.R_nil _ _ _ _ _ | exact Kd.N_nil _ _ _ _ _ | exact Kd.V_nil _ _ _ _ _ | exact Kd.Q_nil _ _ _ _ _ | exact Kd.S_nil _ _ _ _ _, by repeat (first | (with_reducible first | exact HB.out | apply below_alloc | apply pw_below_drewN | apply below_drew1) | exact HB.out)⟩
    · rw [if_neg c5] at H
      have c5b0 : (a0.toList == a1.toList) = false := beq_eq_false_iff_ne.mpr c5
      have c5b1 : (a0.toList != a1.toList) = true := bne_iff_ne.mpr c5
      have HC6 := Aside0.mk H
      clear H
      go_enter Try.func28, Try.ntmps28
      go_upto_block 0 with (fail)
      repeat (go_quiet (fail); go_upto_block 0 with (fail))
      go_cut [6] (fun v6 wc => ∃ (kq : Nat) (x6_5 : Int), v6 = .int .i64 x6_5 ∧ Aside0 (rope_Diff.j1 kq a0 a1 x6_5 = some (r1, r2)) ∧ Aside0 (kq ≤ k) ∧ Aside0 (Below w.heap.size w wc))
      case first =>
        have H := HC6.out
        clear HC6
        have H' := Aside0.mk H
        clear H
        go_wp2
        repeat (go_quiet (fail); try go_wp2)
        go_loopg [6] k (fun kq v6 w' => ∃ (x6_1 : Int), v6 = .int .i64 x6_1 ∧ Aside0 (rope_Diff.l0 kq a0 a1 x6_1 = some (r1, r2)) ∧ Aside0 (kq ≤ k) ∧ Aside0 (Below w.heap.size w w'))
        case atStart => exact ⟨(0), (by first | rfl | (simp; done) | (simp [*]; done)), H', ⟨Nat.le_refl _⟩, ⟨by repeat (first | (with_reducible first | exact HB.out | apply below_alloc | apply pw_below_drewN | apply below_drew1) | exact HB.out)⟩⟩
        case round =>
          clear H'
          try clear c2
          try clear p2
          try clear c4
          try clear c4b0
          try clear c5
          try clear c5b0
          try clear c5b1
          obtain ⟨x6_1, rfl, HA, HK1, HB⟩ := hrel
          cases gk with
          | zero => exact absurd HA.out (by simp [rope_Diff.l0])
          | succ k1 =>
            have H := HA.out
            clear HA
            simp only [rope_Diff.l0] at H
            obtain ⟨ji7, hji7⟩ : ∃ j_ : Int, (mn (a0.size : Int) (a1.size : Int)) = j_ := ⟨_, rfl⟩
            replace H : (if x6_1 < (ji7) then (if 0 ≤ x6_1 then (if x6_1 < (a0.size : Int) then (if x6_1 < (a1.size : Int) then (if (bt a0 x6_1) = (bt a1 x6_1) then (rope_Diff.l0 k1 a0 a1 (wrap64 (x6_1 + 1))) else (rope_Diff.j1 k1 a0 a1 x6_1)) else (none)) else (none)) else (none)) else (rope_Diff.j1 k1 a0 a1 x6_1)) = some (r1, r2) := by first | (rw [hji7] at H; exact H) | (simp only [hji7] at H ⊢; exact H)
            have hji7_ : (if (a1.size : Int) < (a0.size : Int) then (a1.size : Int) else (a0.size : Int)) = ji7 := hji7
            have hji7n : (if a1.size < a0.size then (a1.size : Int) else (a0.size : Int)) = ji7 := by rw [← hji7]; unfold mn; (repeat' split) <;> omega
            by_cases c8 : x6_1 < (ji7)
            · rw [if_pos c8] at H
              have c8b0 : decide (x6_1 < (ji7)) = true := decide_eq_true c8
              clear c8
              (first | rw [c8b0] | (simp only [i64_w, i32_w]; rw [c8b0]) | skip)
              by_cases c9 : 0 ≤ x6_1
              · rw [if_pos c9] at H
                have c9b0 : decide (0 ≤ x6_1) = true := decide_eq_true c9
                clear c9
                by_cases c10 : x6_1 < (a0.size : Int)
                · rw [if_pos c10] at H
                  have c10b0 : decide (x6_1 < (a0.size : Int)) = true := decide_eq_true c10
                  clear c10
                  by_cases c12 : x6_1 < (a1.size : Int)
                  · rw [if_pos c12] at H
                    have c12b0 : decide (x6_1 < (a1.size : Int)) = true := decide_eq_true c12
                    clear c12
                    by_cases c14 : (bt a0 x6_1) = (bt a1 x6_1)
                    · rw [if_pos c14] at H
                      have c14b0 : ((bt a0 x6_1) == (bt a1 x6_1)) = true := beq_iff_eq.mpr c14
                      have c14b1 : ((bt a0 x6_1) != (bt a1 x6_1)) = false := bne_eq_false_iff_eq.mpr c14
                      clear c14
                      have H' := Aside0.mk H
                      clear H
                      have p11 : 0 ≤ (x6_1 : Int) := of_decide_eq_true (by first | (with_reducible assumption) | assumption)
                      have q11 : x6_1 < (a0.size : Int) := of_decide_eq_true (by first | (with_reducible assumption) | assumption)
                      have hx11 := bt_at a0 x6_1
                      replace p11 := eq_true p11
                      replace q11 := eq_true q11
                      have p13 : 0 ≤ (x6_1 : Int) := of_decide_eq_true (by first | (with_reducible assumption) | assumption)
                      have q13 : x6_1 < (a1.size : Int) := of_decide_eq_true (by first | (with_reducible assumption) | assumption)
                      have hx13 := bt_at a1 x6_1
                      replace p13 := eq_true p13
                      replace q13 := eq_true q13
                      go_wp2
                      repeat (go_quiet (fail); try go_wp2)
                      go_roundg k1
                      case measure => have := HK1.out; omega
                      case rel => exact ⟨(wrap64 (x6_1 + 1)), (by first | rfl | (simp; done) | (simp [*]; done)), H', ⟨by have := HK1.out; omega⟩, ⟨by repeat (first | (with_reducible first | exact HB.out | apply below_alloc | apply pw_below_drewN | apply below_drew1) | exact HB.out)⟩⟩
                    · rw [if_neg c14] at H
                      have c14b0 : ((bt a0 x6_1) == (bt a1 x6_1)) = false := beq_eq_false_iff_ne.mpr c14
                      have c14b1 : ((bt a0 x6_1) != (bt a1 x6_1)) = true := bne_iff_ne.mpr c14
                      have H' := Aside0.mk H
                      clear H
                      have p11 : 0 ≤ (x6_1 : Int) := of_decide_eq_true (by first | (with_reducible assumption) | assumption)
                      have q11 : x6_1 < (a0.size : Int) := of_decide_eq_true (by first | (with_reducible assumption) | assumption)
                      have hx11 := bt_at a0 x6_1
                      replace p11 := eq_true p11
                      replace q11 := eq_true q11
                      have p13 : 0 ≤ (x6_1 : Int) := of_decide_eq_true (by first | (with_reducible assumption) | assumption)
                      have q13 : x6_1 < (a1.size : Int) := of_decide_eq_true (by first | (with_reducible assumption) | assumption)
                      have hx13 := bt_at a1 x6_1
                      replace p13 := eq_true p13
                      replace q13 := eq_true q13
                      go_wp2
                      repeat (go_quiet (fail); try go_wp2)
                      go_meet
                      case rel => exact ⟨_, (x6_1), (by first | rfl | (simp; done) | (simp [*]; done)), H', ⟨by have := HK1.out; first | omega | exact Nat.le_refl _⟩, ⟨by repeat (first | (with_reducible first | exact HB.out | apply below_alloc | apply pw_below_drewN | apply below_drew1) | exact HB.out)⟩⟩
                  · rw [if_neg c12] at H
                    exact absurd H (by simp)
                · rw [if_neg c10] at H
                  exact absurd H (by simp)
              · rw [if_neg c9] at H
                exact absurd H (by simp)
            · rw [if_neg c8] at H
              have c8b0 : decide (x6_1 < (ji7)) = false := decide_eq_false c8
              clear c8
              (first | rw [c8b0] | (simp only [i64_w, i32_w]; rw [c8b0]) | skip)
              have H' := Aside0.mk H
              clear H
              go_wp2
              repeat (go_quiet (fail); try go_wp2)
              go_meet
              case rel => exact ⟨_, (x6_1), (by first | rfl | (simp; done) | (simp [*]; done)), H', ⟨by have := HK1.out; first | omega | exact Nat.le_refl _⟩, ⟨by repeat (first | (with_reducible first | exact HB.out | apply below_alloc | apply pw_below_drewN | apply below_drew1) | exact HB.out)⟩⟩
      case rest =>
        clear HC6
        try clear c1
        try clear p1
        try clear q1
        try clear hx1
        try clear c2
        try clear p2
        try clear c4
        try clear c4b0
        try clear c5
        try clear c5b0
        try clear c5b1
        try clear p6
        try clear c8
        try clear c8b0
        try clear c9
        try clear c9b0
        try clear c10
        try clear c10b0
        try clear p11
        try clear q11
        try clear hx11
        try clear c12
        try clear c12b0
        try clear p13
        try clear q13
        try clear hx13
        try clear c14
        try clear c14b0
        try clear c14b1
        try clear p11
        try clear p13
        try clear p2
        try clear q11
        try clear q13
        obtain ⟨kq, x6_5, rfl, HA, HJ5, HB⟩ := hcut
        cases kq with
        | zero => exact absurd HA.out (by simp [rope_Diff.j1])
        | succ kj5 =>
          have H := HA.out
          clear HA
          simp only [rope_Diff.j1] at H
          have H' := Aside0.mk H
          clear H
          go_wp2
          repeat (go_quiet (fail); try go_wp2)
          go_loopg [7] kj5 (fun kq v7 w' => ∃ (x7_2 : Int), v7 = .int .i64 x7_2 ∧ Aside0 (rope_Diff.l1 kq a0 a1 x6_5 x7_2 = some (r1, r2)) ∧ Aside0 (kq ≤ kj5) ∧ Aside0 (Below w.heap.size w w'))
          case atStart => exact ⟨(0), (by first | rfl | (simp; done) | (simp [*]; done)), H', ⟨Nat.le_refl _⟩, ⟨by repeat (first | (with_reducible first | exact HB.out | apply below_alloc | apply pw_below_drewN | apply below_drew1) | exact HB.out)⟩⟩
          case round =>
            clear H'
            try clear c1
            try clear p1
            try clear q1
            try clear hx1
            try clear c2
            try clear p2
            try clear c4
            try clear c4b0
            try clear c5
            try clear c5b0
            try clear c5b1
            try clear p6
            try clear c8
            try clear c8b0
            try clear c9
            try clear c9b0
            try clear c10
            try clear c10b0
            try clear p11
            try clear q11
            try clear hx11
            try clear c12
            try clear c12b0
            try clear p13
            try clear q13
            try clear hx13
            try clear c14
            try clear c14b0
            try clear c14b1
            try clear p1
            try clear p11
            try clear p13
            try clear p2
            try clear p6
            try clear q1
            try clear q11
            try clear q13
            obtain ⟨x7_2, rfl, HA, HK2, HB⟩ := hrel
            cases gk with
            | zero => exact absurd HA.out (by simp [rope_Diff.l1])
            | succ k2 =>
              have H := HA.out
              clear HA
              simp only [rope_Diff.l1] at H
              obtain ⟨ji15, hji15⟩ : ∃ j_ : Int, (mn (a0.size : Int) (a1.size : Int)) = j_ := ⟨_, rfl⟩
              replace H : (if x7_2 < (wrap64 ((ji15) - x6_5)) then (if 0 ≤ (wrap64 ((wrap64 ((a0.size : Int) - 1)) - x7_2)) then (if (wrap64 ((wrap64 ((a0.size : Int) - 1)) - x7_2)) < (a0.size : Int) then (if 0 ≤ (wrap64 ((wrap64 ((a1.size : Int) - 1)) - x7_2)) then (if (wrap64 ((wrap64 ((a1.size : Int) - 1)) - x7_2)) < (a1.size : Int) then (if (bt a0 (wrap64 ((wrap64 ((a0.size : Int) - 1)) - x7_2))) = (bt a1 (wrap64 ((wrap64 ((a1.size : Int) - 1)) - x7_2))) then (rope_Diff.l1 k2 a0 a1 x6_5 (wrap64 (x7_2 + 1))) else (if 0 ≤ x6_5 then (if x6_5 ≤ (wrap64 ((a1.size : Int) - x7_2)) then (if (wrap64 ((a1.size : Int) - x7_2)) ≤ (a1.size : Int) then (some ((([(⟨x6_5, wrap64 ((a0.size : Int) - x7_2), a1.extract (x6_5 : Int).toNat ((wrap64 ((a1.size : Int) - x7_2)) : Int).toNat⟩ : S47)] : List (S47))), 0)) else (none)) else (none)) else (none))) else (none)) else (none)) else (none)) else (none)) else (if 0 ≤ x6_5 then (if x6_5 ≤ (wrap64 ((a1.size : Int) - x7_2)) then (if (wrap64 ((a1.size : Int) - x7_2)) ≤ (a1.size : Int) then (some ((([(⟨x6_5, wrap64 ((a0.size : Int) - x7_2), a1.extract (x6_5 : Int).toNat ((wrap64 ((a1.size : Int) - x7_2)) : Int).toNat⟩ : S47)] : List (S47))), 0)) else (none)) else (none)) else (none))) = some (r1, r2) := by first | (rw [hji15] at H; exact H) | (simp only [hji15] at H ⊢; exact H)
              have hji15_ : (if (a1.size : Int) < (a0.size : Int) then (a1.size : Int) else (a0.size : Int)) = ji15 := hji15
              have hji15n : (if a1.size < a0.size then (a1.size : Int) else (a0.size : Int)) = ji15 := by rw [← hji15]; unfold mn; (repeat' split) <;> omega
              by_cases c16 : x7_2 < (wrap64 ((ji15) - x6_5))
              · rw [if_pos c16] at H
                have c16b0 : decide (x7_2 < (wrap64 ((ji15) - x6_5))) = true := decide_eq_true c16
                clear c16
                obtain ⟨ji17, hji17⟩ : ∃ j_ : Int, (wrap64 ((wrap64 ((a0.size : Int) - 1)) - x7_2)) = j_ := ⟨_, rfl⟩
                replace H : (if 0 ≤ (ji17) then (if (ji17) < (a0.size : Int) then (if 0 ≤ (wrap64 ((wrap64 ((a1.size : Int) - 1)) - x7_2)) then (if (wrap64 ((wrap64 ((a1.size : Int) - 1)) - x7_2)) < (a1.size : Int) then (if (bt a0 (ji17)) = (bt a1 (wrap64 ((wrap64 ((a1.size : Int) - 1)) - x7_2))) then (rope_Diff.l1 k2 a0 a1 x6_5 (wrap64 (x7_2 + 1))) else (if 0 ≤ x6_5 then (if x6_5 ≤ (wrap64 ((a1.size : Int) - x7_2)) then (if (wrap64 ((a1.size : Int) - x7_2)) ≤ (a1.size : Int) then (some ((([(⟨x6_5, wrap64 ((a0.size : Int) - x7_2), a1.extract (x6_5 : Int).toNat ((wrap64 ((a1.size : Int) - x7_2)) : Int).toNat⟩ : S47)] : List (S47))), 0)) else (none)) else (none)) else (none))) else (none)) else (none)) else (none)) else (none)) = some (r1, r2) := by first | (rw [hji17] at H; exact H) | (simp only [hji17] at H ⊢; exact H)
                have hji17w : (IntKind.i64.wrap ((wrap64 ((a0.size : Int) - 1)) - x7_2)) = ji17 := (i64_w _).trans hji17
                by_cases c18 : 0 ≤ (ji17)
                · rw [if_pos c18] at H
                  have c18b0 : decide (0 ≤ (ji17)) = true := decide_eq_true c18
                  clear c18
                  by_cases c19 : (ji17) < (a0.size : Int)
                  · rw [if_pos c19] at H
                    have c19b0 : decide ((ji17) < (a0.size : Int)) = true := decide_eq_true c19
                    clear c19
                    obtain ⟨ji21, hji21⟩ : ∃ j_ : Int, (wrap64 ((wrap64 ((a1.size : Int) - 1)) - x7_2)) = j_ := ⟨_, rfl⟩
                    replace H : (if 0 ≤ (ji21) then (if (ji21) < (a1.size : Int) then (if (bt a0 (ji17)) = (bt a1 (ji21)) then (rope_Diff.l1 k2 a0 a1 x6_5 (wrap64 (x7_2 + 1))) else (if 0 ≤ x6_5 then (if x6_5 ≤ (wrap64 ((a1.size : Int) - x7_2)) then (if (wrap64 ((a1.size : Int) - x7_2)) ≤ (a1.size : Int) then (some ((([(⟨x6_5, wrap64 ((a0.size : Int) - x7_2), a1.extract (x6_5 : Int).toNat ((wrap64 ((a1.size : Int) - x7_2)) : Int).toNat⟩ : S47)] : List (S47))), 0)) else (none)) else (none)) else (none))) else (none)) else (none)) = some (r1, r2) := by first | (rw [hji21] at H; exact H) | (simp only [hji21] at H ⊢; exact H)
                    have hji21w : (IntKind.i64.wrap ((wrap64 ((a1.size : Int) - 1)) - x7_2)) = ji21 := (i64_w _).trans hji21
                    by_cases c22 : 0 ≤ (ji21)
                    · rw [if_pos c22] at H
                      have c22b0 : decide (0 ≤ (ji21)) = true := decide_eq_true c22
                      clear c22
                      by_cases c23 : (ji21) < (a1.size : Int)
                      · rw [if_pos c23] at H
                        have c23b0 : decide ((ji21) < (a1.size : Int)) = true := decide_eq_true c23
                        clear c23
                        by_cases c25 : (bt a0 (ji17)) = (bt a1 (ji21))
                        · rw [if_pos c25] at H
                          have c25b0 : ((bt a0 (ji17)) == (bt a1 (ji21))) = true := beq_iff_eq.mpr c25
                          have c25b1 : ((bt a0 (ji17)) != (bt a1 (ji21))) = false := bne_eq_false_iff_eq.mpr c25
                          clear c25
                          have H' := Aside0.mk H
                          clear H
                          have p20 : 0 ≤ ((ji17) : Int) := of_decide_eq_true (by first | (with_reducible assumption) | assumption)
                          have q20 : (ji17) < (a0.size : Int) := of_decide_eq_true (by first | (with_reducible assumption) | assumption)
                          have hx20 := bt_at a0 (ji17)
                          replace p20 := eq_true p20
                          replace q20 := eq_true q20
                          have p24 : 0 ≤ ((ji21) : Int) := of_decide_eq_true (by first | (with_reducible assumption) | assumption)
                          have q24 : (ji21) < (a1.size : Int) := of_decide_eq_true (by first | (with_reducible assumption) | assumption)
                          have hx24 := bt_at a1 (ji21)
                          replace p24 := eq_true p24
                          replace q24 := eq_true q24
                          go_wp2
                          repeat (go_quiet (fail); try go_wp2)
                          go_roundg k2
                          case measure => have := HJ5.out; have := HK2.out; omega
                          case rel => exact ⟨(wrap64 (x7_2 + 1)), (by first | rfl | (simp; done) | (simp [*]; done)), H', ⟨by have := HJ5.out; have := HK2.out; omega⟩, ⟨by repeat (first | (with_reducible first | exact HB.out | apply below_alloc | apply pw_below_drewN | apply below_drew1) | exact HB.out)⟩⟩
                        · rw [if_neg c25] at H
                          have c25b0 : ((bt a0 (ji17)) == (bt a1 (ji21))) = false := beq_eq_false_iff_ne.mpr c25
                          have c25b1 : ((bt a0 (ji17)) != (bt a1 (ji21))) = true := bne_iff_ne.mpr c25
                          by_cases c26 : 0 ≤ x6_5
                          · rw [if_pos c26] at H
                            have c26b0 := eq_true c26
                            have c26b1 : decide (0 ≤ x6_5) = true := decide_eq_true c26
                            clear c26
                            by_cases c27 : x6_5 ≤ (wrap64 ((a1.size : Int) - x7_2))
                            · rw [if_pos c27] at H
                              have c27b0 := eq_true c27
                              have c27b1 : decide (x6_5 ≤ (wrap64 ((a1.size : Int) - x7_2))) = true := decide_eq_true c27
                              clear c27
                              by_cases c28 : (wrap64 ((a1.size : Int) - x7_2)) ≤ (a1.size : Int)
                              · rw [if_pos c28] at H
                                have c28b0 := eq_true c28
                                have c28b1 : decide ((wrap64 ((a1.size : Int) - x7_2)) ≤ (a1.size : Int)) = true := decide_eq_true c28
                                clear c28
                                obtain ⟨y127, hy127⟩ : ∃ y_ : List (S47), y_ = (([(⟨x6_5, wrap64 ((a0.size : Int) - x7_2), a1.extract (x6_5 : Int).toNat ((wrap64 ((a1.size : Int) - x7_2)) : Int).toNat⟩ : S47)] : List (S47))) := ⟨_, rfl⟩
                                replace H : (some (y127, 0)) = some (r1, r2) := by first | (rw [hy127]; with_reducible exact H) | (have H2_ := (Option.bind_some _ _).symm.trans H; rw [hy127]; with_reducible exact H2_) | (have H2_ := (Option.bind_some _ _).symm.trans H; with_reducible exact H2_) | with_reducible exact H | (rw [hy127]; exact H) | exact H
                                have Ny127 := Aside0.mk hy127
                                clear hy127
                                simp only [Option.some.injEq, Prod.mk.injEq] at H
                                obtain ⟨rfl, rfl⟩ := H
                                have p20 : 0 ≤ ((ji17) : Int) := of_decide_eq_true (by first | (with_reducible assumption) | assumption)
                                have q20 : (ji17) < (a0.size : Int) := of_decide_eq_true (by first | (with_reducible assumption) | assumption)
                                have hx20 := bt_at a0 (ji17)
                                replace p20 := eq_true p20
                                replace q20 := eq_true q20
                                have p24 : 0 ≤ ((ji21) : Int) := of_decide_eq_true (by first | (with_reducible assumption) | assumption)
                                have q24 : (ji21) < (a1.size : Int) := of_decide_eq_true (by first | (with_reducible assumption) | assumption)
                                have hx24 := bt_at a1 (ji21)
                                replace p24 := eq_true p24
                                replace q24 := eq_true q24
                                go_wp2_with (first | ((with_reducible refine gate_dst (N := 76) rfl ?_); (try (refine gate_guard (by rfl) ?_; dsimp only)); refine Kd.R_lit k47 _ 47 ?hg (N := 76) ?hd (xs := ([(⟨x6_5, wrap64 ((a0.size : Int) - x7_2), a1.extract (x6_5 : Int).toNat ((wrap64 ((a1.size : Int) - x7_2)) : Int).toNat⟩ : S47)] : List (S47))) (inner := [.int .i64 x6_5, .int .i64 (wrap64 ((a0.size : Int) - x7_2)), .string (a1.extract (x6_5 : Int).toNat ((wrap64 ((a1.size : Int) - x7_2)) : Int).toNat)]) (ok := fun _ => True) (okp := fun _ => True) ?hr ?hp (fun _ hk => hk) trivial (Below.refl _ _) (Nat.le_refl _) (by simp) ?_; (case hd => rfl); (case hg => rfl); (case hr => first | (go_simp; done) | (go_simp; rfl)); (case hp => exact (Reps.c3 (show Kd.M k47 _ _ _ (⟨x6_5, wrap64 ((a0.size : Int) - x7_2), a1.extract (x6_5 : Int).toNat ((wrap64 ((a1.size : Int) - x7_2)) : Int).toNat⟩ : S47) [.int .i64 x6_5, .int .i64 (wrap64 ((a0.size : Int) - x7_2)), .string (a1.extract (x6_5 : Int).toNat ((wrap64 ((a1.size : Int) - x7_2)) : Int).toNat)] from (k47_mkM _ _ _ (⟨x6_5, wrap64 ((a0.size : Int) - x7_2), a1.extract (x6_5 : Int).toNat ((wrap64 ((a1.size : Int) - x7_2)) : Int).toNat⟩ : S47) )) (Reps.none _ _))); intro v128 w29 ho30 hb hg_ hnew_; clear hg_ hnew_; (first | rw [← Ny127.out] at ho30 | (simp only [Int.reduceToNat] at ho30; rw [← Ny127.out] at ho30)); have n0_ := Aside0.mk (Kd.R_lower ho30 (below_size (by repeat (first | (with_reducible first | exact HB.out | apply below_alloc | apply pw_below_drewN | apply below_drew1) | exact HB.out)))); have n1_ := Aside0.mk (below_step (by repeat (first | (with_reducible first | exact HB.out | apply below_alloc | apply pw_below_drewN | apply below_drew1) | exact HB.out)) hb); clear HB; have HO129 := n0_; have HB := n1_; clear n0_ n1_; clear hb ho30))
                                repeat (go_quiet (first | ((with_reducible refine gate_dst (N := 76) rfl ?_); (try (refine gate_guard (by rfl) ?_; dsimp only)); refine Kd.R_lit k47 _ 47 ?hg (N := 76) ?hd (xs := ([(⟨x6_5, wrap64 ((a0.size : Int) - x7_2), a1.extract (x6_5 : Int).toNat ((wrap64 ((a1.size : Int) - x7_2)) : Int).toNat⟩ : S47)] : List (S47))) (inner := [.int .i64 x6_5, .int .i64 (wrap64 ((a0.size : Int) - x7_2)), .string (a1.extract (x6_5 : Int).toNat ((wrap64 ((a1.size : Int) - x7_2)) : Int).toNat)]) (ok := fun _ => True) (okp := fun _ => True) ?hr ?hp (fun _ hk => hk) trivial (Below.refl _ _) (Nat.le_refl _) (by simp) ?_; (case hd => rfl); (case hg => rfl); (case hr => first | (go_simp; done) | (go_simp; rfl)); (case hp => exact (Reps.c3 (show Kd.M k47 _ _ _ (⟨x6_5, wrap64 ((a0.size : Int) - x7_2), a1.extract (x6_5 : Int).toNat ((wrap64 ((a1.size : Int) - x7_2)) : Int).toNat⟩ : S47) [.int .i64 x6_5, .int .i64 (wrap64 ((a0.size : Int) - x7_2)), .string (a1.extract (x6_5 : Int).toNat ((wrap64 ((a1.size : Int) - x7_2)) : Int).toNat)] from (k47_mkM _ _ _ (⟨x6_5, wrap64 ((a0.size : Int) - x7_2), a1.extract (x6_5 : Int).toNat ((wrap64 ((a1.size : Int) - x7_2)) : Int).toNat⟩ : S47) )) (Reps.none _ _))); intro v128 w29 ho30 hb hg_ hnew_; clear hg_ hnew_; (first | rw [← Ny127.out] at ho30 | (simp only [Int.reduceToNat] at ho30; rw [← Ny127.out] at ho30)); have n0_ := Aside0.mk (Kd.R_lower ho30 (below_size (by repeat (first | (with_reducible first | exact HB.out | apply below_alloc | apply pw_below_drewN | apply below_drew1) | exact HB.out)))); have n1_ := Aside0.mk (below_step (by repeat (first | (with_reducible first | exact HB.out | apply below_alloc | apply pw_below_drewN | apply below_drew1) | exact HB.out)) hb); clear HB; have HO129 := n0_; have HB := n1_; clear n0_ n1_; clear hb ho30)); try go_wp2_with (first | ((with_reducible refine gate_dst (N := 76) rfl ?_); (try (refine gate_guard (by rfl) ?_; dsimp only)); refine Kd.R_lit k47 _ 47 ?hg (N := 76) ?hd (xs := ([(⟨x6_5, wrap64 ((a0.size : Int) - x7_2), a1.extract (x6_5 : Int).toNat ((wrap64 ((a1.size : Int) - x7_2)) : Int).toNat⟩ : S47)] : List (S47))) (inner := [.int .i64 x6_5, .int .i64 (wrap64 ((a0.size : Int) - x7_2)), .string (a1.extract (x6_5 : Int).toNat ((wrap64 ((a1.size : Int) - x7_2)) : Int).toNat)]) (ok := fun _ => True) (okp := fun _ => True) ?hr ?hp (fun _ hk => hk) trivial (Below.refl _ _) (Nat.le_refl _) (by simp) ?_; (case hd => rfl); (case hg => rfl); (case hr => first | (go_simp; done) | (go_simp; rfl)); (case hp => exact (Reps.c3 (show Kd.M k47 _ _ _ (⟨x6_5, wrap64 ((a0.size : Int) - x7_2), a1.extract (x6_5 : Int).toNat ((wrap64 ((a1.size : Int) - x7_2)) : Int).toNat⟩ : S47) [.int .i64 x6_5, .int .i64 (wrap64 ((a0.size : Int) - x7_2)), .string (a1.extract (x6_5 : Int).toNat ((wrap64 ((a1.size : Int) - x7_2)) : Int).toNat)] from (k47_mkM _ _ _ (⟨x6_5, wrap64 ((a0.size : Int) - x7_2), a1.extract (x6_5 : Int).toNat ((wrap64 ((a1.size : Int) - x7_2)) : Int).toNat⟩ : S47) )) (Reps.none _ _))); intro v128 w29 ho30 hb hg_ hnew_; clear hg_ hnew_; (first | rw [← Ny127.out] at ho30 | (simp only [Int.reduceToNat] at ho30; rw [← Ny127.out] at ho30)); have n0_ := Aside0.mk (Kd.R_lower ho30 (below_size (by repeat (first | (with_reducible first | exact HB.out | apply below_alloc | apply pw_below_drewN | apply below_drew1) | exact HB.out)))); have n1_ := Aside0.mk (below_step (by repeat (first | (with_reducible first | exact HB.out | apply below_alloc | apply pw_below_drewN | apply below_drew1) | exact HB.out)) hb); clear HB; have HO129 := n0_; have HB := n1_; clear n0_ n1_; clear hb ho30)))
                                go_ret2
                                exact ⟨_, by first | rfl | (simp [errW_none, errW_some] <;> rfl) | (simp only [← hji3, ← hji15, ← hji17, ← hji21]; first | rfl | (simp [errW_none, errW_some] <;> rfl)) | (simp [*, errW_none, errW_some] <;> rfl), by (with_reducible repeat (first | apply Kd.R_alloc | apply Kd.R_drewN | apply Kd.R_drew)); exact HO129.out, by repeat (first | (with_reducible first | exact HB.out | apply below_alloc | apply pw_below_drewN | apply below_drew1) | exact HB.out)⟩
                              · rw [if_neg c28] at H
                                exact absurd H (by simp)
                            · rw [if_neg c27] at H
                              exact absurd H (by simp)
                          · rw [if_neg c26] at H
                            exact absurd H (by simp)
                      · rw [if_neg c23] at H
                        exact absurd H (by simp)
                    · rw [if_neg c22] at H
                      exact absurd H (by simp)
                  · rw [if_neg c19] at H
                    exact absurd H (by simp)
                · rw [if_neg c18] at H
                  exact absurd H (by simp)
              · rw [if_neg c16] at H
                have c16b0 : decide (x7_2 < (wrap64 ((ji15) - x6_5))) = false := decide_eq_false c16
                clear c16
                by_cases c31 : 0 ≤ x6_5
                · rw [if_pos c31] at H
                  have c31b0 := eq_true c31
                  have c31b1 : decide (0 ≤ x6_5) = true := decide_eq_true c31
                  clear c31
                  by_cases c32 : x6_5 ≤ (wrap64 ((a1.size : Int) - x7_2))
                  · rw [if_pos c32] at H
                    have c32b0 := eq_true c32
                    have c32b1 : decide (x6_5 ≤ (wrap64 ((a1.size : Int) - x7_2))) = true := decide_eq_true c32
                    clear c32
                    by_cases c33 : (wrap64 ((a1.size : Int) - x7_2)) ≤ (a1.size : Int)
                    · rw [if_pos c33] at H
                      have c33b0 := eq_true c33
                      have c33b1 : decide ((wrap64 ((a1.size : Int) - x7_2)) ≤ (a1.size : Int)) = true := decide_eq_true c33
                      clear c33
                      obtain ⟨y130, hy130⟩ : ∃ y_ : List (S47), y_ = (([(⟨x6_5, wrap64 ((a0.size : Int) - x7_2), a1.extract (x6_5 : Int).toNat ((wrap64 ((a1.size : Int) - x7_2)) : Int).toNat⟩ : S47)] : List (S47))) := ⟨_, rfl⟩
                      replace H : (some (y130, 0)) = some (r1, r2) := by first | (rw [hy130]; with_reducible exact H) | (have H2_ := (Option.bind_some _ _).symm.trans H; rw [hy130]; with_reducible exact H2_) | (have H2_ := (Option.bind_some _ _).symm.trans H; with_reducible exact H2_) | with_reducible exact H | (rw [hy130]; exact H) | exact H
                      have Ny130 := Aside0.mk hy130
                      clear hy130
                      simp only [Option.some.injEq, Prod.mk.injEq] at H
                      obtain ⟨rfl, rfl⟩ := H
                      go_wp2_with (first | ((with_reducible refine gate_dst (N := 76) rfl ?_); (try (refine gate_guard (by rfl) ?_; dsimp only)); refine Kd.R_lit k47 _ 47 ?hg (N := 76) ?hd (xs := ([(⟨x6_5, wrap64 ((a0.size : Int) - x7_2), a1.extract (x6_5 : Int).toNat ((wrap64 ((a1.size : Int) - x7_2)) : Int).toNat⟩ : S47)] : List (S47))) (inner := [.int .i64 x6_5, .int .i64 (wrap64 ((a0.size : Int) - x7_2)), .string (a1.extract (x6_5 : Int).toNat ((wrap64 ((a1.size : Int) - x7_2)) : Int).toNat)]) (ok := fun _ => True) (okp := fun _ => True) ?hr ?hp (fun _ hk => hk) trivial (Below.refl _ _) (Nat.le_refl _) (by simp) ?_; (case hd => rfl); (case hg => rfl); (case hr => first | (go_simp; done) | (go_simp; rfl)); (case hp => exact (Reps.c3 (show Kd.M k47 _ _ _ (⟨x6_5, wrap64 ((a0.size : Int) - x7_2), a1.extract (x6_5 : Int).toNat ((wrap64 ((a1.size : Int) - x7_2)) : Int).toNat⟩ : S47) [.int .i64 x6_5, .int .i64 (wrap64 ((a0.size : Int) - x7_2)), .string (a1.extract (x6_5 : Int).toNat ((wrap64 ((a1.size : Int) - x7_2)) : Int).toNat)] from (k47_mkM _ _ _ (⟨x6_5, wrap64 ((a0.size : Int) - x7_2), a1.extract (x6_5 : Int).toNat ((wrap64 ((a1.size : Int) - x7_2)) : Int).toNat⟩ : S47) )) (Reps.none _ _))); intro v131 w34 ho35 hb hg_ hnew_; clear hg_ hnew_; (first | rw [← Ny130.out] at ho35 | (simp only [Int.reduceToNat] at ho35; rw [← Ny130.out] at ho35)); have n0_ := Aside0.mk (Kd.R_lower ho35 (below_size (by repeat (first | (with_reducible first | exact HB.out | apply below_alloc | apply pw_below_drewN | apply below_drew1) | exact HB.out)))); have n1_ := Aside0.mk (below_step (by repeat (first | (with_reducible first | exact HB.out | apply below_alloc | apply pw_below_drewN | apply below_drew1) | exact HB.out)) hb); clear HB; have HO132 := n0_; have HB := n1_; clear n0_ n1_; clear hb ho35))
                      repeat (go_quiet (first | ((with_reducible refine gate_dst (N := 76) rfl ?_); (try (refine gate_guard (by rfl) ?_; dsimp only)); refine Kd.R_lit k47 _ 47 ?hg (N := 76) ?hd (xs := ([(⟨x6_5, wrap64 ((a0.size : Int) - x7_2), a1.extract (x6_5 : Int).toNat ((wrap64 ((a1.size : Int) - x7_2)) : Int).toNat⟩ : S47)] : List (S47))) (inner := [.int .i64 x6_5, .int .i64 (wrap64 ((a0.size : Int) - x7_2)), .string (a1.extract (x6_5 : Int).toNat ((wrap64 ((a1.size : Int) - x7_2)) : Int).toNat)]) (ok := fun _ => True) (okp := fun _ => True) ?hr ?hp (fun _ hk => hk) trivial (Below.refl _ _) (Nat.le_refl _) (by simp) ?_; (case hd => rfl); (case hg => rfl); (case hr => first | (go_simp; done) | (go_simp; rfl)); (case hp => exact (Reps.c3 (show Kd.M k47 _ _ _ (⟨x6_5, wrap64 ((a0.size : Int) - x7_2), a1.extract (x6_5 : Int).toNat ((wrap64 ((a1.size : Int) - x7_2)) : Int).toNat⟩ : S47) [.int .i64 x6_5, .int .i64 (wrap64 ((a0.size : Int) - x7_2)), .string (a1.extract (x6_5 : Int).toNat ((wrap64 ((a1.size : Int) - x7_2)) : Int).toNat)] from (k47_mkM _ _ _ (⟨x6_5, wrap64 ((a0.size : Int) - x7_2), a1.extract (x6_5 : Int).toNat ((wrap64 ((a1.size : Int) - x7_2)) : Int).toNat⟩ : S47) )) (Reps.none _ _))); intro v131 w34 ho35 hb hg_ hnew_; clear hg_ hnew_; (first | rw [← Ny130.out] at ho35 | (simp only [Int.reduceToNat] at ho35; rw [← Ny130.out] at ho35)); have n0_ := Aside0.mk (Kd.R_lower ho35 (below_size (by repeat (first | (with_reducible first | exact HB.out | apply below_alloc | apply pw_below_drewN | apply below_drew1) | exact HB.out)))); have n1_ := Aside0.mk (below_step (by repeat (first | (with_reducible first | exact HB.out | apply below_alloc | apply pw_below_drewN | apply below_drew1) | exact HB.out)) hb); clear HB; have HO132 := n0_; have HB := n1_; clear n0_ n1_; clear hb ho35)); try go_wp2_with (first | ((with_reducible refine gate_dst (N := 76) rfl ?_); (try (refine gate_guard (by rfl) ?_; dsimp only)); refine Kd.R_lit k47 _ 47 ?hg (N := 76) ?hd (xs := ([(⟨x6_5, wrap64 ((a0.size : Int) - x7_2), a1.extract (x6_5 : Int).toNat ((wrap64 ((a1.size : Int) - x7_2)) : Int).toNat⟩ : S47)] : List (S47))) (inner := [.int .i64 x6_5, .int .i64 (wrap64 ((a0.size : Int) - x7_2)), .string (a1.extract (x6_5 : Int).toNat ((wrap64 ((a1.size : Int) - x7_2)) : Int).toNat)]) (ok := fun _ => True) (okp := fun _ => True) ?hr ?hp (fun _ hk => hk) trivial (Below.refl _ _) (Nat.le_refl _) (by simp) ?_; (case hd => rfl); (case hg => rfl); (case hr => first | (go_simp; done) | (go_simp; rfl)); (case hp => exact (Reps.c3 (show Kd.M k47 _ _ _ (⟨x6_5, wrap64 ((a0.size : Int) - x7_2), a1.extract (x6_5 : Int).toNat ((wrap64 ((a1.size : Int) - x7_2)) : Int).toNat⟩ : S47) [.int .i64 x6_5, .int .i64 (wrap64 ((a0.size : Int) - x7_2)), .string (a1.extract (x6_5 : Int).toNat ((wrap64 ((a1.size : Int) - x7_2)) : Int).toNat)] from (k47_mkM _ _ _ (⟨x6_5, wrap64 ((a0.size : Int) - x7_2), a1.extract (x6_5 : Int).toNat ((wrap64 ((a1.size : Int) - x7_2)) : Int).toNat⟩ : S47) )) (Reps.none _ _))); intro v131 w34 ho35 hb hg_ hnew_; clear hg_ hnew_; (first | rw [← Ny130.out] at ho35 | (simp only [Int.reduceToNat] at ho35; rw [← Ny130.out] at ho35)); have n0_ := Aside0.mk (Kd.R_lower ho35 (below_size (by repeat (first | (with_reducible first | exact HB.out | apply below_alloc | apply pw_below_drewN | apply below_drew1) | exact HB.out)))); have n1_ := Aside0.mk (below_step (by repeat (first | (with_reducible first | exact HB.out | apply below_alloc | apply pw_below_drewN | apply below_drew1) | exact HB.out)) hb); clear HB; have HO132 := n0_; have HB := n1_; clear n0_ n1_; clear hb ho35)))
                      go_ret2
                      exact ⟨_, by first | rfl | (simp [errW_none, errW_some] <;> rfl) | (simp only [← hji3, ← hji15]; first | rfl | (simp [errW_none, errW_some] <;> rfl)) | (simp [*, errW_none, errW_some] <;> rfl), by (with_reducible repeat (first | apply Kd.R_alloc | apply Kd.R_drewN | apply Kd.R_drew)); exact HO132.out, by repeat (first | (with_reducible first | exact HB.out | apply below_alloc | apply pw_below_drewN | apply below_drew1) | exact HB.out)⟩
                    · rw [if_neg c33] at H
                      exact absurd H (by simp)
                  · rw [if_neg c32] at H
                    exact absurd H (by simp)
                · rw [if_neg c31] at H
                  exact absurd H (by simp)

/-! ### marginalialaw01_sample: function 46 -/
def marginalialaw01_sample.f  : Option ((List (S47))) := some (([(⟨1, 2, (⟨#[120]⟩ : ByteArray)⟩ : S47), (⟨2, 2, (⟨#[121, 122]⟩ : ByteArray)⟩ : S47)] : List (S47)))
set_option maxHeartbeats 8000000 in
set_option maxRecDepth 100000 in
theorem marginalialaw01_sample.calls  (r : List (S47)) (w : World) (h : marginalialaw01_sample.f  = some r) :
    Calls Try.prog 46 #[] w fun e w' => ∃ v0_ : Value, e = .returned (v0_) ∧ Kd.R k47 47 w' w.heap.size (fun _ => True) v0_ r ∧ Below w.heap.size w w' := by
  have hu47 := Try.underlying47
  have HB := Aside0.mk (Below.refl w.heap.size w)
  have H : (some (([(⟨1, 2, (⟨#[120]⟩ : ByteArray)⟩ : S47), (⟨2, 2, (⟨#[121, 122]⟩ : ByteArray)⟩ : S47)] : List (S47)))) = some r := h
  clear h
  obtain ⟨y133, hy133⟩ : ∃ y_ : List (S47), y_ = (([(⟨1, 2, (⟨#[120]⟩ : ByteArray)⟩ : S47), (⟨2, 2, (⟨#[121, 122]⟩ : ByteArray)⟩ : S47)] : List (S47))) := ⟨_, rfl⟩
  replace H : (some y133) = some r := by first | (rw [hy133]; with_reducible exact H) | (have H2_ := (Option.bind_some _ _).symm.trans H; rw [hy133]; with_reducible exact H2_) | (have H2_ := (Option.bind_some _ _).symm.trans H; with_reducible exact H2_) | with_reducible exact H | (rw [hy133]; exact H) | exact H
  have Ny133 := Aside0.mk hy133
  clear hy133
  obtain rfl := Option.some.inj H
  go_enter Try.func46, Try.ntmps46
  go_wp2_with (first | ((with_reducible refine gate_dst (N := 3) rfl ?_); refine Kd.R_lit k47 _ 47 ?hg (N := 3) ?hd (xs := ([(⟨1, 2, (⟨#[120]⟩ : ByteArray)⟩ : S47), (⟨2, 2, (⟨#[121, 122]⟩ : ByteArray)⟩ : S47)] : List (S47))) (inner := [.int .i64 1, .int .i64 2, .string (⟨#[120]⟩ : ByteArray), .int .i64 2, .int .i64 2, .string (⟨#[121, 122]⟩ : ByteArray)]) (ok := fun _ => True) (okp := fun _ => True) ?hr ?hp (fun _ hk => hk) trivial (Below.refl _ _) (Nat.le_refl _) (by simp) ?_; (case hd => rfl); (case hg => rfl); (case hr => first | (go_simp; done) | (go_simp; rfl)); (case hp => exact (Reps.c3 (show Kd.M k47 _ _ _ (⟨1, 2, (⟨#[120]⟩ : ByteArray)⟩ : S47) [.int .i64 1, .int .i64 2, .string (⟨#[120]⟩ : ByteArray)] from (k47_mkM _ _ _ (⟨1, 2, (⟨#[120]⟩ : ByteArray)⟩ : S47) )) (Reps.c3 (show Kd.M k47 _ _ _ (⟨2, 2, (⟨#[121, 122]⟩ : ByteArray)⟩ : S47) [.int .i64 2, .int .i64 2, .string (⟨#[121, 122]⟩ : ByteArray)] from (k47_mkM _ _ _ (⟨2, 2, (⟨#[121, 122]⟩ : ByteArray)⟩ : S47) )) (Reps.none _ _)))); intro v134 w1 ho2 hb hg_ hnew_; clear hg_ hnew_; (first | rw [← Ny133.out] at ho2 | (simp only [Int.reduceToNat] at ho2; rw [← Ny133.out] at ho2)); have n0_ := Aside0.mk (Kd.R_lower ho2 (below_size (by repeat (first | (with_reducible first | exact HB.out | apply below_alloc | apply pw_below_drewN | apply below_drew1) | exact HB.out)))); have n1_ := Aside0.mk (below_step (by repeat (first | (with_reducible first | exact HB.out | apply below_alloc | apply pw_below_drewN | apply below_drew1) | exact HB.out)) hb); clear HB; have HO135 := n0_; have HB := n1_; clear n0_ n1_; clear hb ho2))
  go_ret
  exact ⟨_, by first | rfl | (simp [errW_none, errW_some] <;> rfl) | (simp [*, errW_none, errW_some] <;> rfl), by (with_reducible repeat (first | apply Kd.R_alloc | apply Kd.R_drewN | apply Kd.R_drew)); exact HO135.out, by repeat (first | (with_reducible first | exact HB.out | apply below_alloc | apply pw_below_drewN | apply below_drew1) | exact HB.out)⟩

end Go.Proofs.Ytfllpoonfhiipaa.P

namespace Go.Proofs.Ytfllpoonfhiipaa.P
open Go.RowKit Go.Proofs.YtfllpoonfhiipaaW.PrintWords Go.Proofs.YtfllpoonfhiipaaW.PrintLast Go.Proofs.YtfllpoonfhiipaaW.PrintMore
attribute [local go_sem] max2_int min2_int max_two min_two max_three min_three max_four min_four
set_option linter.unusedVariables false
set_option linter.unusedSimpArgs false

def marginalialaw01_alive.f : Option (Bool) := some true
def marginalialaw01_alive.s1 : List (S47) := [⟨1, 2, ⟨#[120]⟩⟩, ⟨2, 2, ⟨#[121, 122]⟩⟩]
def marginalialaw01_alive.s2 : List (S47) := [⟨1, 2, ⟨#[98]⟩⟩, ⟨2, 4, ⟨#[]⟩⟩]
def marginalialaw01_alive.s3 : List (S47) := [⟨1, 3, ⟨#[120]⟩⟩]
def marginalialaw01_alive.s4 : List (S47) := [⟨2, 2, ⟨#[98]⟩⟩]
theorem marginalialaw01_alive.e0 : marginalialaw01_sample.f = some marginalialaw01_alive.s1 := by kernel_rfl
theorem marginalialaw01_alive.e1 : rope_Apply.f 10 ⟨#[97, 98, 99, 100]⟩ marginalialaw01_alive.s1 = some (⟨#[97, 120, 121, 122, 99, 100]⟩, 0) := by kernel_rfl
theorem marginalialaw01_alive.e2 : rope_Invert.f 10 ⟨#[97, 98, 99, 100]⟩ marginalialaw01_alive.s1 = some (marginalialaw01_alive.s2, 0) := by kernel_rfl
theorem marginalialaw01_alive.e3 : rope_Move.f 10 marginalialaw01_alive.s3 2 false = some (2, 0) := by kernel_rfl
theorem marginalialaw01_alive.e4 : rope_Diff.f 10 ⟨#[97, 98, 99]⟩ ⟨#[97, 98, 98, 99]⟩ = some (marginalialaw01_alive.s4, 0) := by kernel_rfl
theorem marginalialaw01_alive.e5 : marginaliaref01_Same.f 10 marginalialaw01_alive.s2 marginalialaw01_alive.s2 = some true := by kernel_rfl
theorem marginalialaw01_alive.e6 : marginaliaref01_Same.f 10 marginalialaw01_alive.s4 marginalialaw01_alive.s4 = some true := by kernel_rfl
set_option maxHeartbeats 8000000 in
set_option maxRecDepth 100000 in
theorem marginalialaw01_alive.calls (r : Bool) (w : World) (h : marginalialaw01_alive.f = some r) :
    Calls Try.prog 21 #[] w fun e w' => e = .returned (.bool r) ∧ Below w.heap.size w w' := by
  have hu := Try.underlying47
  simp only [marginalialaw01_alive.f, Option.some.injEq] at h
  subst h
  go_enter Try.func21, Try.ntmps21
  go_wp2_with fail
  refine (marginalialaw01_sample.calls _ _ marginalialaw01_alive.e0).mono ?_
  rintro e w1 ⟨v, rfl, hv, hb1⟩
  obtain ⟨A, c, rfl, hc, hC⟩ := Kd.R_reads hv
  go_wp2_with fail
  refine (rope_Apply.calls 10 _ _ _ marginalialaw01_alive.s1 _ 0 _ hC hc marginalialaw01_alive.e1).mono ?_
  rintro e w2 ⟨rfl, hb2⟩
  clear hv hC hc
  go_wp2_with fail
  refine (marginalialaw01_sample.calls _ _ marginalialaw01_alive.e0).mono ?_
  rintro e w3 ⟨v, rfl, hv, hb3⟩
  obtain ⟨A, c, rfl, hc, hC⟩ := Kd.R_reads hv
  go_wp2_with fail
  refine (rope_Invert.calls 10 _ _ _ marginalialaw01_alive.s1 _ 0 _ hC hc marginalialaw01_alive.e2).mono ?_
  rintro e w4 ⟨v, rfl, hv4, hb4⟩
  clear hv hC hc
  obtain ⟨A, c, rfl, hc, hC⟩ := Kd.R_reads hv4
  clear hv4
  have hB4 : Below w.heap.size w w4 := Kx.below_step (Kx.below_step (Kx.below_step hb1 hb2) hb3) hb4
  have HB4 := Aside0.mk hB4
  clear hb1 hb2 hb3 hb4 hB4
  have HC4 := Aside0.mk hC
  clear hC
  go_wp2_with fail
  have hC5 : k47.C (w4.alloc (.cells #[.int .i64 1, .int .i64 3, .string ⟨#[120]⟩] 47)) (some ⟨w4.heap.size, 0, none⟩) marginalialaw01_alive.s3.length marginalialaw01_alive.s3 :=
    Kx.C_lit _ (cs := [.int .i64 1, .int .i64 3, .string ⟨#[120]⟩]) (Bld.alloc_at _ _) (Kx.Reps.cons (k47_mk _ ⟨1, 3, ⟨#[120]⟩⟩) rfl (Reps.none _ _)) (by simp [marginalialaw01_alive.s3])
  refine (rope_Move.calls 10 _ _ marginalialaw01_alive.s3 2 false 2 0 _ hC5 (Nat.le_refl _) marginalialaw01_alive.e3).mono ?_
  rintro e w5 ⟨rfl, hb5⟩
  clear hC5
  have hB5 : Below w4.heap.size w4 w5 := Kx.below_step ((Below.refl _ _).alloc (Nat.le_refl _) _) hb5
  have HB5 := Aside0.mk hB5
  clear hb5 hB5
  go_wp2_with fail
  refine (rope_Diff.calls 10 _ _ marginalialaw01_alive.s4 0 _ marginalialaw01_alive.e4).mono ?_
  rintro e w6 ⟨v, rfl, hv6, hb6⟩
  obtain ⟨A6, c6, rfl, hc6, hC6⟩ := Kd.R_reads hv6
  clear hv6
  have HB6 := Aside0.mk hb6
  have HC6 := Aside0.mk hC6
  clear hb6 hC6
  go_wp2_with fail
  refine (Rope.New_ok _ _ (by decide)).mono ?_
  rintro e w7 ⟨v, rfl, hr7, hb7⟩
  have HB7 := Aside0.mk hb7
  have HR7 := Aside0.mk hr7
  obtain ⟨g7, u7, rfl, _⟩ := hr7.open
  clear hb7 hr7
  obtain ⟨jr, hjr, _⟩ := Option.map_eq_some_iff.1 (show (Try.prog.info? 66).map (·.size) = some 4 by kernel_rfl)
  go_wp2_with fail
  have hB47 : Below w4.heap.size w4 w7 := Kx.below_step (Kx.below_step HB5.out HB6.out) HB7.out
  have hCa : k47.C (w7.alloc (.cells #[.int .i64 1, .int .i64 2, .string ⟨#[98]⟩, .int .i64 2, .int .i64 4, .string ⟨#[]⟩] 47)) A marginalialaw01_alive.s2.length marginalialaw01_alive.s2 := Kd.C_alloc (Kd.C_below HC4.out hB47) _
  have hCb : k47.C (w7.alloc (.cells #[.int .i64 1, .int .i64 2, .string ⟨#[98]⟩, .int .i64 2, .int .i64 4, .string ⟨#[]⟩] 47)) (some ⟨w7.heap.size, 0, none⟩) marginalialaw01_alive.s2.length marginalialaw01_alive.s2 :=
    Kx.C_lit _ (cs := [.int .i64 1, .int .i64 2, .string ⟨#[98]⟩, .int .i64 2, .int .i64 4, .string ⟨#[]⟩]) (Bld.alloc_at _ _) (Kx.Reps.cons (k47_mk _ ⟨1, 2, ⟨#[98]⟩⟩) rfl (Kx.Reps.cons (k47_mk _ ⟨2, 4, ⟨#[]⟩⟩) rfl (Reps.none _ _))) (by simp [marginalialaw01_alive.s2])
  refine (marginaliaref01_Same.calls 10 _ _ marginalialaw01_alive.s2 _ _ marginalialaw01_alive.s2 true _ hCa hc hCb (Nat.le_refl _) marginalialaw01_alive.e5).mono ?_
  rintro e w8 ⟨rfl, hd8⟩
  have HB8 := Aside0.mk (Kx.below_step ((Below.refl _ _).alloc (Nat.le_refl _) _) (Kx.Drawn0.below hd8))
  have HB48 := Aside0.mk (Kx.below_step hB47 HB8.out)
  clear hd8 hCa hCb hB47
  go_wp2_with fail
  have hB68 : Below w6.heap.size w6 w8 := Kx.below_step HB7.out HB8.out
  have hCa : k47.C (w8.alloc (.cells #[.int .i64 2, .int .i64 2, .string ⟨#[98]⟩] 47)) A6 marginalialaw01_alive.s4.length marginalialaw01_alive.s4 := Kd.C_alloc (Kd.C_below HC6.out hB68) _
  have hCb : k47.C (w8.alloc (.cells #[.int .i64 2, .int .i64 2, .string ⟨#[98]⟩] 47)) (some ⟨w8.heap.size, 0, none⟩) marginalialaw01_alive.s4.length marginalialaw01_alive.s4 :=
    Kx.C_lit _ (cs := [.int .i64 2, .int .i64 2, .string ⟨#[98]⟩]) (Bld.alloc_at _ _) (Kx.Reps.cons (k47_mk _ ⟨2, 2, ⟨#[98]⟩⟩) rfl (Reps.none _ _)) (by simp [marginalialaw01_alive.s4])
  refine (marginaliaref01_Same.calls 10 _ _ marginalialaw01_alive.s4 _ _ marginalialaw01_alive.s4 true _ hCa hc6 hCb (Nat.le_refl _) marginalialaw01_alive.e6).mono ?_
  rintro e w9 ⟨rfl, hd9⟩
  have HB9 := Aside0.mk (Kx.below_step ((Below.refl _ _).alloc (Nat.le_refl _) _) (Kx.Drawn0.below hd9))
  have HB79 := Aside0.mk (Kx.below_step HB8.out HB9.out)
  have HR9 := Aside0.mk (Rope.IsRp.below HB79.out HR7.out)
  clear hd9 hCa hCb hB68
  go_wp2_with fail
  refine (Rope.Lines_ok _ _ _ HR9.out (by decide)).mono ?_
  rintro e w10 ⟨rfl, rfl⟩
  go_wp2_with fail
  refine (Rope.Text_ok _ _ _ HR9.out (by decide)).mono ?_
  rintro e w11 ⟨rfl, hb11⟩
  go_wp2_with fail
  go_ret
  refine ⟨congrArg (fun b => Ending.returned (.bool b)) (show (Rope.txt (Rope.Rp.base (Rope.one ⟨#[97, 98, 10, 99]⟩)).ps == [97, 98, 10, 99]) = true by decide), Kx.below_step (Kx.below_step HB4.out HB48.out) (Kx.below_step HB9.out hb11)⟩

end Go.Proofs.Ytfllpoonfhiipaa.P

namespace Go.Proofs.Ytfllpoonfhiipaa.P
open Go.RowKit Go.Proofs.YtfllpoonfhiipaaW.PrintWords Go.Proofs.YtfllpoonfhiipaaW.PrintLast Go.Proofs.YtfllpoonfhiipaaW.PrintMore
attribute [local go_sem] max2_int min2_int max_two min_two max_three min_three max_four min_four
set_option linter.unusedVariables false
set_option linter.unusedSimpArgs false

/-! ### marginaliaref01_Apply: function 22 -/
def marginaliaref01_Apply.l0 : Nat → ByteArray → List (S47) → ByteArray → Int → Int → Option (ByteArray)
  | 0, _, _, _, _, _ => none
  | k + 1, x0, x1, x5, x6, x7 => if x7 < (x1.length : Int) then (if 0 ≤ x7 then (if 0 ≤ x6 then (if x6 ≤ ((rd_T47 x1 x7).f0) then (if ((rd_T47 x1 x7).f0) ≤ (x0.size : Int) then (if x5.size + (x0.extract (x6 : Int).toNat (((rd_T47 x1 x7).f0) : Int).toNat).size ≤ 9223372036854775807 then (if (x5 ++ (x0.extract (x6 : Int).toNat (((rd_T47 x1 x7).f0) : Int).toNat)).size + ((rd_T47 x1 x7).f2).size ≤ 9223372036854775807 then (marginaliaref01_Apply.l0 k x0 x1 ((x5 ++ (x0.extract (x6 : Int).toNat (((rd_T47 x1 x7).f0) : Int).toNat)) ++ ((rd_T47 x1 x7).f2)) ((rd_T47 x1 x7).f1) (wrap64 (x7 + 1))) else (none)) else (none)) else (none)) else (none)) else (none)) else (none)) else (if 0 ≤ x6 then (if x6 ≤ (x0.size : Int) then (if x5.size + (x0.extract (x6 : Int).toNat x0.size).size ≤ 9223372036854775807 then (some (x5 ++ (x0.extract (x6 : Int).toNat x0.size))) else (none)) else (none)) else (none))
def marginaliaref01_Apply.f (k : Nat) (a0 : ByteArray) (l1 : List (S47)) : Option (ByteArray) := marginaliaref01_Apply.l0 k a0 l1 (⟨#[]⟩ : ByteArray) 0 0
set_option maxHeartbeats 8000000 in
set_option maxRecDepth 100000 in
theorem marginaliaref01_Apply.calls (k : Nat) (a0 : ByteArray) (A1 : Option Addr) (c1 : Nat) (l1 : List (S47)) (r : ByteArray) (w : World) (hr1 : Kd.C k47 w A1 l1.length l1) (hc1 : l1.length ≤ c1) (h : marginaliaref01_Apply.f k a0 l1 = some r) :
    Calls Try.prog 22 #[.string a0, .slice A1 l1.length c1] w fun e w' => e = .returned (.string r) ∧ Drawn0 w w' := by
  have HR1 := Aside0.mk hr1
  have HC1 := Aside0.mk hc1
  clear hr1 hc1
  have H : (marginaliaref01_Apply.l0 k a0 l1 (⟨#[]⟩ : ByteArray) 0 0) = some r := h
  clear h
  have H' := Aside0.mk H
  clear H
  go_enter Try.func22, Try.ntmps22
  go_wp2
  repeat (go_quiet (fail); try go_wp2)
  go_loopg [5, 6, 7] k (fun kq v5 v6 v7 w' => ∃ (x5_1 : ByteArray) (x6_1 : Int) (x7_1 : Int), v5 = .string x5_1 ∧ v6 = .int .i64 x6_1 ∧ v7 = .int .i64 x7_1 ∧ Aside0 (marginaliaref01_Apply.l0 kq a0 l1 x5_1 x6_1 x7_1 = some r) ∧ Aside0 (kq ≤ k) ∧ Drawn0 w w')
  case atStart => exact ⟨((⟨#[]⟩ : ByteArray)), (0), (0), (by first | rfl | (simp; done) | (simp [*]; done)), (by first | rfl | (simp; done) | (simp [*]; done)), (by first | rfl | (simp; done) | (simp [*]; done)), H', ⟨Nat.le_refl _⟩, by repeat (first | exact Drawn0.refl _ | apply Drawn0.step)⟩
  case round =>
    clear H'
    try clear c1
    try clear c2
    try clear p2
    obtain ⟨x5_1, x6_1, x7_1, rfl, rfl, rfl, HA, HK1, ⟨m1, rfl⟩⟩ := hrel
    cases gk with
    | zero => exact absurd HA.out (by simp [marginaliaref01_Apply.l0])
    | succ k1 =>
      have H := HA.out
      clear HA
      simp only [marginaliaref01_Apply.l0] at H
      by_cases c3 : x7_1 < (l1.length : Int)
      · rw [if_pos c3] at H
        have c3b0 : decide (x7_1 < (l1.length : Int)) = true := decide_eq_true c3
        clear c3
        by_cases c4 : 0 ≤ x7_1
        · rw [if_pos c4] at H
          have c4b0 : decide (0 ≤ x7_1) = true := decide_eq_true c4
          clear c4
          by_cases c5 : 0 ≤ x6_1
          · rw [if_pos c5] at H
            have c5b0 := eq_true c5
            have c5b1 : decide (0 ≤ x6_1) = true := decide_eq_true c5
            clear c5
            by_cases c6 : x6_1 ≤ ((rd_T47 l1 x7_1).f0)
            · rw [if_pos c6] at H
              have c6b0 := eq_true c6
              have c6b1 : decide (x6_1 ≤ ((rd_T47 l1 x7_1).f0)) = true := decide_eq_true c6
              clear c6
              by_cases c7 : ((rd_T47 l1 x7_1).f0) ≤ (a0.size : Int)
              · rw [if_pos c7] at H
                have c7b0 := eq_true c7
                have c7b1 : decide (((rd_T47 l1 x7_1).f0) ≤ (a0.size : Int)) = true := decide_eq_true c7
                clear c7
                by_cases c8 : x5_1.size + (a0.extract (x6_1 : Int).toNat (((rd_T47 l1 x7_1).f0) : Int).toNat).size ≤ 9223372036854775807
                · rw [if_pos c8] at H
                  have c8b0 := eq_true c8
                  have c8b1 : decide (x5_1.size + (a0.extract (x6_1 : Int).toNat (((rd_T47 l1 x7_1).f0) : Int).toNat).size ≤ 9223372036854775807) = true := decide_eq_true c8
                  try have c8b2 : (9223372036854775807 < x5_1.size + (a0.extract (x6_1 : Int).toNat (((rd_T47 l1 x7_1).f0) : Int).toNat).size) = False := eq_false (Nat.not_lt.2 c8)
                  by_cases c9 : (x5_1 ++ (a0.extract (x6_1 : Int).toNat (((rd_T47 l1 x7_1).f0) : Int).toNat)).size + ((rd_T47 l1 x7_1).f2).size ≤ 9223372036854775807
                  · rw [if_pos c9] at H
                    have c9b0 := eq_true c9
                    have c9b1 : decide ((x5_1 ++ (a0.extract (x6_1 : Int).toNat (((rd_T47 l1 x7_1).f0) : Int).toNat)).size + ((rd_T47 l1 x7_1).f2).size ≤ 9223372036854775807) = true := decide_eq_true c9
                    try have c9b2 : (9223372036854775807 < (x5_1 ++ (a0.extract (x6_1 : Int).toNat (((rd_T47 l1 x7_1).f0) : Int).toNat)).size + ((rd_T47 l1 x7_1).f2).size) = False := eq_false (Nat.not_lt.2 c9)
                    have H' := Aside0.mk H
                    clear H
                    have p136 : 0 ≤ (x7_1 : Int) := of_decide_eq_true (by first | (with_reducible assumption) | assumption)
                    have q136 : x7_1 < (l1.length : Int) := of_decide_eq_true (by first | (with_reducible assumption) | assumption)
                    obtain ⟨ad136, e136, hx136_0, hx136_1, hx136_2⟩ := at_T47 HR1.out x7_1 p136 q136
                    cases e136
                    replace p136 := eq_true p136
                    replace q136 := eq_true q136
                    have p137 : 0 ≤ (x7_1 : Int) := of_decide_eq_true (by first | (with_reducible assumption) | assumption)
                    have q137 : x7_1 < (l1.length : Int) := of_decide_eq_true (by first | (with_reducible assumption) | assumption)
                    obtain ⟨ad137, e137, hx137_0, hx137_1, hx137_2⟩ := at_T47 HR1.out x7_1 p137 q137
                    obtain rfl : ad136 = ad137 := (by injection e137)
                    replace p137 := eq_true p137
                    replace q137 := eq_true q137
                    have p138 : 0 ≤ (x7_1 : Int) := of_decide_eq_true (by first | (with_reducible assumption) | assumption)
                    have q138 : x7_1 < (l1.length : Int) := of_decide_eq_true (by first | (with_reducible assumption) | assumption)
                    obtain ⟨ad138, e138, hx138_0, hx138_1, hx138_2⟩ := at_T47 HR1.out x7_1 p138 q138
                    obtain rfl : ad136 = ad138 := (by injection e138)
                    replace p138 := eq_true p138
                    replace q138 := eq_true q138
                    go_wp2
                    repeat (go_quiet (fail); try go_wp2)
                    go_roundg k1
                    case measure => have := HK1.out; omega
                    case rel => exact ⟨((x5_1 ++ (a0.extract (x6_1 : Int).toNat (((rd_T47 l1 x7_1).f0) : Int).toNat)) ++ ((rd_T47 l1 x7_1).f2)), ((rd_T47 l1 x7_1).f1), (wrap64 (x7_1 + 1)), (by first | rfl | (simp; done) | (simp [*]; done)), (by first | rfl | (simp; done) | (simp [*]; done)), (by first | rfl | (simp; done) | (simp [*]; done)), H', ⟨by have := HK1.out; omega⟩, by repeat (first | exact Drawn0.refl _ | apply Drawn0.step)⟩
                  · rw [if_neg c9] at H
                    exact absurd H (by simp)
                · rw [if_neg c8] at H
                  exact absurd H (by simp)
              · rw [if_neg c7] at H
                exact absurd H (by simp)
            · rw [if_neg c6] at H
              exact absurd H (by simp)
          · rw [if_neg c5] at H
            exact absurd H (by simp)
        · rw [if_neg c4] at H
          exact absurd H (by simp)
      · rw [if_neg c3] at H
        have c3b0 : decide (x7_1 < (l1.length : Int)) = false := decide_eq_false c3
        clear c3
        by_cases c10 : 0 ≤ x6_1
        · rw [if_pos c10] at H
          have c10b0 := eq_true c10
          have c10b1 : decide (0 ≤ x6_1) = true := decide_eq_true c10
          clear c10
          by_cases c11 : x6_1 ≤ (a0.size : Int)
          · rw [if_pos c11] at H
            have c11b0 := eq_true c11
            have c11b1 : decide (x6_1 ≤ (a0.size : Int)) = true := decide_eq_true c11
            clear c11
            by_cases c12 : x5_1.size + (a0.extract (x6_1 : Int).toNat a0.size).size ≤ 9223372036854775807
            · rw [if_pos c12] at H
              have c12b0 := eq_true c12
              have c12b1 : decide (x5_1.size + (a0.extract (x6_1 : Int).toNat a0.size).size ≤ 9223372036854775807) = true := decide_eq_true c12
              try have c12b2 : (9223372036854775807 < x5_1.size + (a0.extract (x6_1 : Int).toNat a0.size).size) = False := eq_false (Nat.not_lt.2 c12)
              obtain rfl := Option.some.inj H
              go_wp2
              repeat (go_quiet (fail); try go_wp2)
              go_ret
              exact ⟨by first | rfl | (simp; done) | (simp [*]; done), by repeat (first | exact Drawn0.refl _ | apply Drawn0.step)⟩
            · rw [if_neg c12] at H
              exact absurd H (by simp)
          · rw [if_neg c11] at H
            exact absurd H (by simp)
        · rw [if_neg c10] at H
          exact absurd H (by simp)

end Go.Proofs.Ytfllpoonfhiipaa.P

namespace Go.Proofs.Ytfllpoonfhiipaa.P
open Go.RowKit Go.Proofs.YtfllpoonfhiipaaW.PrintWords Go.Proofs.YtfllpoonfhiipaaW.PrintLast Go.Proofs.YtfllpoonfhiipaaW.PrintMore
attribute [local go_sem] max2_int min2_int max_two min_two max_three min_three max_four min_four
set_option linter.unusedVariables false
set_option linter.unusedSimpArgs false

/-! #### struct type 93 -/
structure S93 where
  f0 : Int
  f1 : Int
  f2 : Bool
  f3 : S47
def z93 : S93 := ⟨(0 : Int), (0 : Int), false, z47⟩
def k93 : Kd S93 := Kd.iso (Kd.pair (Kd.int .i64) (Kd.pair (Kd.int .i64) (Kd.pair Kd.bool k47))) (fun x : S93 => (x.f0, x.f1, x.f2, x.f3))
theorem k93_open {w : World} {x : S93} {cs : List Value} (h : k93.K w x cs) : cs = [.int .i64 x.f0, .int .i64 x.f1, .bool x.f2, .int .i64 x.f3.f0, .int .i64 x.f3.f1, .string x.f3.f2] := by
  obtain ⟨_, _, rfl, rfl, ⟨_, _, rfl, rfl, ⟨_, _, rfl, rfl, s3⟩⟩⟩ := h
  obtain rfl := k47_open s3
  exact rfl
theorem k93_mk (w : World) (x : S93)  : k93.K w x [.int .i64 x.f0, .int .i64 x.f1, .bool x.f2, .int .i64 x.f3.f0, .int .i64 x.f3.f1, .string x.f3.f2] := ⟨[.int .i64 x.f0], [.int .i64 x.f1, .bool x.f2, .int .i64 x.f3.f0, .int .i64 x.f3.f1, .string x.f3.f2], rfl, rfl, ⟨[.int .i64 x.f1], [.bool x.f2, .int .i64 x.f3.f0, .int .i64 x.f3.f1, .string x.f3.f2], rfl, rfl, ⟨[.bool x.f2], [.int .i64 x.f3.f0, .int .i64 x.f3.f1, .string x.f3.f2], rfl, rfl, (k47_mk w x.f3 )⟩⟩⟩
theorem k93_mkM (w : World) (base : Nat) (ok : Nat → Prop) (x : S93)  : k93.M w base ok x [.int .i64 x.f0, .int .i64 x.f1, .bool x.f2, .int .i64 x.f3.f0, .int .i64 x.f3.f1, .string x.f3.f2] := ⟨[.int .i64 x.f0], [.int .i64 x.f1, .bool x.f2, .int .i64 x.f3.f0, .int .i64 x.f3.f1, .string x.f3.f2], rfl, rfl, ⟨[.int .i64 x.f1], [.bool x.f2, .int .i64 x.f3.f0, .int .i64 x.f3.f1, .string x.f3.f2], rfl, rfl, ⟨[.bool x.f2], [.int .i64 x.f3.f0, .int .i64 x.f3.f1, .string x.f3.f2], rfl, rfl, (k47_mkM w base ok x.f3 )⟩⟩⟩
def rd_T93 (xs : List S93) (i : Int) : S93 := xs.getD i.toNat z93
theorem at_T93 {w : World} {A : Option Addr} {n : Nat} {xs : List S93} (h : Kd.C k93 w A n xs) (i : Int) (h0 : 0 ≤ i) (h1 : i < n) : ∃ ad , A = some ad ∧ w.cell? (ad.add (i.toNat * 6)) = some (.int .i64 (rd_T93 xs i).f0) ∧ w.cell? ⟨(ad.add (i.toNat * 6)).block, (ad.add (i.toNat * 6)).off + 1, none⟩ = some (.int .i64 (rd_T93 xs i).f1) ∧ w.cell? ⟨(ad.add (i.toNat * 6)).block, (ad.add (i.toNat * 6)).off + 2, none⟩ = some (.bool (rd_T93 xs i).f2) ∧ w.cell? ⟨(ad.add (i.toNat * 6)).block, (ad.add (i.toNat * 6)).off + 3, none⟩ = some (.int .i64 (rd_T93 xs i).f3.f0) ∧ w.cell? ⟨(ad.add (i.toNat * 6)).block, (ad.add (i.toNat * 6)).off + 4, none⟩ = some (.int .i64 (rd_T93 xs i).f3.f1) ∧ w.cell? ⟨(ad.add (i.toNat * 6)).block, (ad.add (i.toNat * 6)).off + 5, none⟩ = some (.string (rd_T93 xs i).f3.f2) := by
  obtain ⟨ad, c, e, _, hK, hc0⟩ := Kd.C_get h z93 i h0 h1
  have hc : ∀ j u, c[j]? = some u → w.cell? (ad.add (i.toNat * 6 + j)) = some u := hc0
  obtain rfl := k93_open hK
  exact ⟨ad, e, hc 0 _ rfl, by rw [← add_field _ _ 1 (by omega)]; exact hc 1 _ rfl, by rw [← add_field _ _ 2 (by omega)]; exact hc 2 _ rfl, by rw [← add_field _ _ 3 (by omega)]; exact hc 3 _ rfl, by rw [← add_field _ _ 4 (by omega)]; exact hc 4 _ rfl, by rw [← add_field _ _ 5 (by omega)]; exact hc 5 _ rfl⟩

def rd_L6 (xs : List (List S93)) (i : Int) : (List S93) := xs.getD i.toNat ([] : List S93)
theorem at_L6 {w : World} {A : Option Addr} {n : Nat} {xs : List (List S93)} (h : Kd.C (Kd.slice 93 k93) w A n xs) (i : Int) (h0 : 0 ≤ i) (h1 : i < n) : ∃ ad A0 c0, A = some ad ∧ w.cell? (ad.add i.toNat) = some (.slice A0 (rd_L6 xs i).length c0) ∧ (rd_L6 xs i).length ≤ c0 ∧ k93.C w A0 (rd_L6 xs i).length (rd_L6 xs i) := by
  obtain ⟨ad, c, e, _, hK, hc0⟩ := Kd.C_get h ([] : List S93) i h0 h1
  have hc : ∀ j u, c[j]? = some u → w.cell? (ad.add (i.toNat * 1 + j)) = some u := hc0
  obtain ⟨A0, c0, rfl, l0, g0⟩ := hK
  exact ⟨ad, A0, c0, e, by have hq := hc 0 _ rfl; rwa [Nat.mul_one, Nat.add_zero] at hq, l0, g0⟩

/-! ### rope_reach: function 69 -/
def rope_reach.l0 : Nat → Int → Int → List (S93) → Int → Int → Option (Int × Int)
  | 0, _, _, _, _, _ => none
  | k + 1, x4, x5, x16, x17, x18 => if x18 < x17 then (if 0 ≤ x18 then (if x18 < (x16.length : Int) then (rope_reach.l0 k (mn x4 ((rd_T93 x16 x18).f0)) (mx x5 ((rd_T93 x16 x18).f1)) x16 x17 (wrap64 (x18 + 1))) else (none)) else (none)) else (some (x4, x5))
def rope_reach.f (k : Nat) (l0 : List (S93)) : Option (Int × Int) := if 0 < (l0.length : Int) then (rope_reach.l0 k ((rd_T93 l0 0).f0) ((rd_T93 l0 0).f1) l0 (l0.length : Int) 0) else (none)
set_option maxHeartbeats 8000000 in
set_option maxRecDepth 100000 in
theorem rope_reach.calls (k : Nat) (A0 : Option Addr) (c0 : Nat) (l0 : List (S93)) (r1 : Int) (r2 : Int) (w : World) (hr0 : Kd.C k93 w A0 l0.length l0) (hc0 : l0.length ≤ c0) (h : rope_reach.f k l0 = some (r1, r2)) :
    Calls Try.prog 69 #[.slice A0 l0.length c0] w fun e w' => e = .returned (.tuple #[.int .i64 r1, .int .i64 r2]) ∧ Below w.heap.size w w' := by
  have hu93 := Try.underlying93
  have HR0 := Aside0.mk hr0
  have HC0 := Aside0.mk hc0
  clear hr0 hc0
  have HB := Aside0.mk (Below.refl w.heap.size w)
  have H : (if 0 < (l0.length : Int) then (rope_reach.l0 k ((rd_T93 l0 0).f0) ((rd_T93 l0 0).f1) l0 (l0.length : Int) 0) else (none)) = some (r1, r2) := h
  clear h
  by_cases c2 : 0 < (l0.length : Int)
  · rw [if_pos c2] at H
    have c2b0 : decide (0 < (l0.length : Int)) = true := decide_eq_true c2
    have c2b1 : decide (0 < l0.length) = true := decide_eq_true (by omega)
    clear c2
    have H' := Aside0.mk H
    clear H
    have p143 : 0 ≤ (0 : Int) := (by omega)
    have q143 : 0 < (l0.length : Int) := of_decide_eq_true (by first | (with_reducible assumption) | assumption)
    obtain ⟨ad143, e143, hx143_0, hx143_1, hx143_2, hx143_3, hx143_4, hx143_5⟩ := at_T93 HR0.out 0 p143 q143
    cases e143
    have qi143 : (0 < l0.length) = True := eq_true (by omega)
    (try rw [show ((0 : Int)).toNat = 0 from rfl] at hx143_0)
    (try rw [show 0 * 6 = 0 from rfl] at hx143_0)
    (try rw [Addr.add_zero'] at hx143_0)
    (try rw [show ((0 : Int)).toNat = 0 from rfl] at hx143_1)
    (try rw [show 0 * 6 = 0 from rfl] at hx143_1)
    (try rw [Addr.add_zero'] at hx143_1)
    (try rw [show ((0 : Int)).toNat = 0 from rfl] at hx143_2)
    (try rw [show 0 * 6 = 0 from rfl] at hx143_2)
    (try rw [Addr.add_zero'] at hx143_2)
    (try rw [show ((0 : Int)).toNat = 0 from rfl] at hx143_3)
    (try rw [show 0 * 6 = 0 from rfl] at hx143_3)
    (try rw [Addr.add_zero'] at hx143_3)
    (try rw [show ((0 : Int)).toNat = 0 from rfl] at hx143_4)
    (try rw [show 0 * 6 = 0 from rfl] at hx143_4)
    (try rw [Addr.add_zero'] at hx143_4)
    (try rw [show ((0 : Int)).toNat = 0 from rfl] at hx143_5)
    (try rw [show 0 * 6 = 0 from rfl] at hx143_5)
    (try rw [Addr.add_zero'] at hx143_5)
    replace p143 := eq_true p143
    replace q143 := eq_true q143
    have p144 : 0 ≤ (0 : Int) := (by omega)
    have q144 : 0 < (l0.length : Int) := of_decide_eq_true (by first | (with_reducible assumption) | assumption)
    obtain ⟨ad144, e144, hx144_0, hx144_1, hx144_2, hx144_3, hx144_4, hx144_5⟩ := at_T93 HR0.out 0 p144 q144
    obtain rfl : ad143 = ad144 := (by injection e144)
    have qi144 : (0 < l0.length) = True := eq_true (by omega)
    (try rw [show ((0 : Int)).toNat = 0 from rfl] at hx144_0)
    (try rw [show 0 * 6 = 0 from rfl] at hx144_0)
    (try rw [Addr.add_zero'] at hx144_0)
    (try rw [show ((0 : Int)).toNat = 0 from rfl] at hx144_1)
    (try rw [show 0 * 6 = 0 from rfl] at hx144_1)
    (try rw [Addr.add_zero'] at hx144_1)
    (try rw [show ((0 : Int)).toNat = 0 from rfl] at hx144_2)
    (try rw [show 0 * 6 = 0 from rfl] at hx144_2)
    (try rw [Addr.add_zero'] at hx144_2)
    (try rw [show ((0 : Int)).toNat = 0 from rfl] at hx144_3)
    (try rw [show 0 * 6 = 0 from rfl] at hx144_3)
    (try rw [Addr.add_zero'] at hx144_3)
    (try rw [show ((0 : Int)).toNat = 0 from rfl] at hx144_4)
    (try rw [show 0 * 6 = 0 from rfl] at hx144_4)
    (try rw [Addr.add_zero'] at hx144_4)
    (try rw [show ((0 : Int)).toNat = 0 from rfl] at hx144_5)
    (try rw [show 0 * 6 = 0 from rfl] at hx144_5)
    (try rw [Addr.add_zero'] at hx144_5)
    replace p144 := eq_true p144
    replace q144 := eq_true q144
    go_enter Try.func69, Try.ntmps69
    go_wp2
    repeat (go_quiet (fail); try go_wp2)
    go_loopg [4, 5, 18] k (fun kq v4 v5 v18 w' => ∃ (x4_1 : Int) (x5_1 : Int) (x18_1 : Int), v4 = .int .i64 x4_1 ∧ v5 = .int .i64 x5_1 ∧ v18 = .int .i64 x18_1 ∧ Aside0 (rope_reach.l0 kq x4_1 x5_1 l0 (l0.length : Int) x18_1 = some (r1, r2)) ∧ Aside0 (kq ≤ k) ∧ Aside0 (Below w.heap.size w w'))
    case atStart => exact ⟨((rd_T93 l0 0).f0), ((rd_T93 l0 0).f1), (0), (by first | rfl | (simp; done) | (simp [*]; done)), (by first | rfl | (simp; done) | (simp [*]; done)), (by first | rfl | (simp; done) | (simp [*]; done)), H', ⟨Nat.le_refl _⟩, ⟨by repeat (first | (with_reducible first | exact HB.out | apply below_alloc | apply pw_below_drewN | apply below_drew1) | exact HB.out)⟩⟩
    case round =>
      clear H'
      try clear p1
      try clear q1
      try clear hx1
      try clear qi1
      try clear c2
      try clear c2b0
      try clear c2b1
      try clear p2
      try clear hx143_0
      try clear hx143_1
      try clear hx143_2
      try clear hx143_3
      try clear hx143_4
      try clear hx143_5
      try clear hx144_0
      try clear hx144_1
      try clear hx144_2
      try clear hx144_3
      try clear hx144_4
      try clear hx144_5
      try clear p143
      try clear p144
      try clear q143
      try clear q144
      obtain ⟨x4_1, x5_1, x18_1, rfl, rfl, rfl, HA, HK1, HB⟩ := hrel
      cases gk with
      | zero => exact absurd HA.out (by simp [rope_reach.l0])
      | succ k1 =>
        have H := HA.out
        clear HA
        simp only [rope_reach.l0] at H
        by_cases c3 : x18_1 < (l0.length : Int)
        · rw [if_pos c3] at H
          have c3b0 : decide (x18_1 < (l0.length : Int)) = true := decide_eq_true c3
          clear c3
          by_cases c4 : 0 ≤ x18_1
          · rw [if_pos c4] at H
            have c4b0 : decide (0 ≤ x18_1) = true := decide_eq_true c4
            clear c4
            by_cases c5 : x18_1 < (l0.length : Int)
            · rw [if_pos c5] at H
              have c5b0 : decide (x18_1 < (l0.length : Int)) = true := decide_eq_true c5
              clear c5
              obtain ⟨ji6, hji6⟩ : ∃ j_ : Int, (mn x4_1 ((rd_T93 l0 x18_1).f0)) = j_ := ⟨_, rfl⟩
              replace H : (rope_reach.l0 k1 ji6 (mx x5_1 ((rd_T93 l0 x18_1).f1)) l0 (l0.length : Int) (wrap64 (x18_1 + 1))) = some (r1, r2) := by first | (rw [hji6] at H; exact H) | (simp only [hji6] at H ⊢; exact H)
              have hji6_ : (if ((rd_T93 l0 x18_1).f0) < x4_1 then ((rd_T93 l0 x18_1).f0) else x4_1) = ji6 := hji6
              obtain ⟨ji7, hji7⟩ : ∃ j_ : Int, (mx x5_1 ((rd_T93 l0 x18_1).f1)) = j_ := ⟨_, rfl⟩
              replace H : (rope_reach.l0 k1 ji6 ji7 l0 (l0.length : Int) (wrap64 (x18_1 + 1))) = some (r1, r2) := by first | (rw [hji7] at H; exact H) | (simp only [hji7] at H ⊢; exact H)
              have hji7_ : (if x5_1 < ((rd_T93 l0 x18_1).f1) then ((rd_T93 l0 x18_1).f1) else x5_1) = ji7 := hji7
              have H' := Aside0.mk H
              clear H
              have p145 : 0 ≤ (x18_1 : Int) := of_decide_eq_true (by first | (with_reducible assumption) | assumption)
              have q145 : x18_1 < (l0.length : Int) := of_decide_eq_true (by first | (with_reducible assumption) | assumption)
              obtain ⟨ad145, e145, hx145_0, hx145_1, hx145_2, hx145_3, hx145_4, hx145_5⟩ := at_T93 HR0.out x18_1 p145 q145
              obtain rfl : ad143 = ad145 := (by injection e145)
              replace hx145_0 := (HB.out.cell (World.block_lt_of_cell? w _ hx145_0)).trans hx145_0
              replace hx145_1 := (HB.out.cell (World.block_lt_of_cell? w _ hx145_1)).trans hx145_1
              replace hx145_2 := (HB.out.cell (World.block_lt_of_cell? w _ hx145_2)).trans hx145_2
              replace hx145_3 := (HB.out.cell (World.block_lt_of_cell? w _ hx145_3)).trans hx145_3
              replace hx145_4 := (HB.out.cell (World.block_lt_of_cell? w _ hx145_4)).trans hx145_4
              replace hx145_5 := (HB.out.cell (World.block_lt_of_cell? w _ hx145_5)).trans hx145_5
              replace p145 := eq_true p145
              replace q145 := eq_true q145
              go_wp2_with (first | ((with_reducible refine gate_dst (N := 7) rfl ?_); refine box_event ?hg (N := 7) ?hd (cs := #[.int .i64 0, .int .i64 0, .bool false, .int .i64 0, .int .i64 0, .string (⟨#[]⟩ : ByteArray)]) (t := 93) ?hr ?_; (case hd => rfl); (case hg => rfl); (case hr => first | (go_simp; done) | (go_simp; rfl)); intro gb146 hg w8 hbox hb; have n0_ := Aside0.mk (below_step (by repeat (first | (with_reducible first | exact HB.out | apply below_alloc | apply pw_below_drewN | apply below_drew1) | exact HB.out)) hb); have n1_ := Aside0.mk (hbox); have n2_ := Aside0.mk ((by rw [hg]; exact (below_size (by repeat (first | (with_reducible first | exact HB.out | apply below_alloc | apply pw_below_drewN | apply below_drew1) | exact HB.out))) : w.heap.size ≤ gb146)); have n3_ := Aside0.mk ((by rw [hg]; exact (below_size (by repeat (first | (with_reducible first | exact HB.out | apply below_alloc | apply pw_below_drewN | apply below_drew1) | exact HB.out))) : w.heap.size ≤ gb146)); clear HB; have HB := n0_; have BK146 := n1_; have GW146 := n2_; have GE146 := n3_; clear n0_ n1_ n2_ n3_; clear hb hbox hg; have hcz9_0 : w8.cell? ⟨gb146, 0, none⟩ = some (.int .i64 0) := (blk_cell BK146.out 0).trans rfl; have hcz9_1 : w8.cell? ⟨gb146, 1, none⟩ = some (.int .i64 0) := (blk_cell BK146.out 1).trans rfl; have hcz9_2 : w8.cell? ⟨gb146, 2, none⟩ = some (.bool false) := (blk_cell BK146.out 2).trans rfl; have hcz9_3 : w8.cell? ⟨gb146, 3, none⟩ = some (.int .i64 0) := (blk_cell BK146.out 3).trans rfl; have hcz9_4 : w8.cell? ⟨gb146, 4, none⟩ = some (.int .i64 0) := (blk_cell BK146.out 4).trans rfl; have hcz9_5 : w8.cell? ⟨gb146, 5, none⟩ = some (.string (⟨#[]⟩ : ByteArray)) := (blk_cell BK146.out 5).trans rfl; have hfz9_0 := blk_frozen BK146.out 0; have hfz9_1 := blk_frozen BK146.out 1; have hfz9_2 := blk_frozen BK146.out 2; have hfz9_3 := blk_frozen BK146.out 3; have hfz9_4 := blk_frozen BK146.out 4; have hfz9_5 := blk_frozen BK146.out 5))
              repeat (go_quiet (first | ((with_reducible refine gate_dst (N := 7) rfl ?_); refine box_event ?hg (N := 7) ?hd (cs := #[.int .i64 0, .int .i64 0, .bool false, .int .i64 0, .int .i64 0, .string (⟨#[]⟩ : ByteArray)]) (t := 93) ?hr ?_; (case hd => rfl); (case hg => rfl); (case hr => first | (go_simp; done) | (go_simp; rfl)); intro gb146 hg w8 hbox hb; have n0_ := Aside0.mk (below_step (by repeat (first | (with_reducible first | exact HB.out | apply below_alloc | apply pw_below_drewN | apply below_drew1) | exact HB.out)) hb); have n1_ := Aside0.mk (hbox); have n2_ := Aside0.mk ((by rw [hg]; exact (below_size (by repeat (first | (with_reducible first | exact HB.out | apply below_alloc | apply pw_below_drewN | apply below_drew1) | exact HB.out))) : w.heap.size ≤ gb146)); have n3_ := Aside0.mk ((by rw [hg]; exact (below_size (by repeat (first | (with_reducible first | exact HB.out | apply below_alloc | apply pw_below_drewN | apply below_drew1) | exact HB.out))) : w.heap.size ≤ gb146)); clear HB; have HB := n0_; have BK146 := n1_; have GW146 := n2_; have GE146 := n3_; clear n0_ n1_ n2_ n3_; clear hb hbox hg; have hcz9_0 : w8.cell? ⟨gb146, 0, none⟩ = some (.int .i64 0) := (blk_cell BK146.out 0).trans rfl; have hcz9_1 : w8.cell? ⟨gb146, 1, none⟩ = some (.int .i64 0) := (blk_cell BK146.out 1).trans rfl; have hcz9_2 : w8.cell? ⟨gb146, 2, none⟩ = some (.bool false) := (blk_cell BK146.out 2).trans rfl; have hcz9_3 : w8.cell? ⟨gb146, 3, none⟩ = some (.int .i64 0) := (blk_cell BK146.out 3).trans rfl; have hcz9_4 : w8.cell? ⟨gb146, 4, none⟩ = some (.int .i64 0) := (blk_cell BK146.out 4).trans rfl; have hcz9_5 : w8.cell? ⟨gb146, 5, none⟩ = some (.string (⟨#[]⟩ : ByteArray)) := (blk_cell BK146.out 5).trans rfl; have hfz9_0 := blk_frozen BK146.out 0; have hfz9_1 := blk_frozen BK146.out 1; have hfz9_2 := blk_frozen BK146.out 2; have hfz9_3 := blk_frozen BK146.out 3; have hfz9_4 := blk_frozen BK146.out 4; have hfz9_5 := blk_frozen BK146.out 5)); try go_wp2_with (first | ((with_reducible refine gate_dst (N := 7) rfl ?_); refine box_event ?hg (N := 7) ?hd (cs := #[.int .i64 0, .int .i64 0, .bool false, .int .i64 0, .int .i64 0, .string (⟨#[]⟩ : ByteArray)]) (t := 93) ?hr ?_; (case hd => rfl); (case hg => rfl); (case hr => first | (go_simp; done) | (go_simp; rfl)); intro gb146 hg w8 hbox hb; have n0_ := Aside0.mk (below_step (by repeat (first | (with_reducible first | exact HB.out | apply below_alloc | apply pw_below_drewN | apply below_drew1) | exact HB.out)) hb); have n1_ := Aside0.mk (hbox); have n2_ := Aside0.mk ((by rw [hg]; exact (below_size (by repeat (first | (with_reducible first | exact HB.out | apply below_alloc | apply pw_below_drewN | apply below_drew1) | exact HB.out))) : w.heap.size ≤ gb146)); have n3_ := Aside0.mk ((by rw [hg]; exact (below_size (by repeat (first | (with_reducible first | exact HB.out | apply below_alloc | apply pw_below_drewN | apply below_drew1) | exact HB.out))) : w.heap.size ≤ gb146)); clear HB; have HB := n0_; have BK146 := n1_; have GW146 := n2_; have GE146 := n3_; clear n0_ n1_ n2_ n3_; clear hb hbox hg; have hcz9_0 : w8.cell? ⟨gb146, 0, none⟩ = some (.int .i64 0) := (blk_cell BK146.out 0).trans rfl; have hcz9_1 : w8.cell? ⟨gb146, 1, none⟩ = some (.int .i64 0) := (blk_cell BK146.out 1).trans rfl; have hcz9_2 : w8.cell? ⟨gb146, 2, none⟩ = some (.bool false) := (blk_cell BK146.out 2).trans rfl; have hcz9_3 : w8.cell? ⟨gb146, 3, none⟩ = some (.int .i64 0) := (blk_cell BK146.out 3).trans rfl; have hcz9_4 : w8.cell? ⟨gb146, 4, none⟩ = some (.int .i64 0) := (blk_cell BK146.out 4).trans rfl; have hcz9_5 : w8.cell? ⟨gb146, 5, none⟩ = some (.string (⟨#[]⟩ : ByteArray)) := (blk_cell BK146.out 5).trans rfl; have hfz9_0 := blk_frozen BK146.out 0; have hfz9_1 := blk_frozen BK146.out 1; have hfz9_2 := blk_frozen BK146.out 2; have hfz9_3 := blk_frozen BK146.out 3; have hfz9_4 := blk_frozen BK146.out 4; have hfz9_5 := blk_frozen BK146.out 5)))
              go_roundg k1
              case measure => have := HK1.out; omega
              case rel => exact ⟨(ji6), (ji7), (wrap64 (x18_1 + 1)), (by first | rfl | (simp; done) | (simp only [← hji6] <;> (first | rfl | simp)) | (simp [*]; done)), (by first | rfl | (simp; done) | (simp only [← hji7] <;> (first | rfl | simp)) | (simp [*]; done)), (by first | rfl | (simp; done) | (simp [*]; done)), H', ⟨by have := HK1.out; omega⟩, ⟨by repeat (first | (with_reducible first | exact HB.out | apply below_alloc | apply pw_below_drewN | apply below_drew1 | refine below_set ?_ GE146.out) | exact HB.out)⟩⟩
            · rw [if_neg c5] at H
              exact absurd H (by simp)
          · rw [if_neg c4] at H
            exact absurd H (by simp)
        · rw [if_neg c3] at H
          have c3b0 : decide (x18_1 < (l0.length : Int)) = false := decide_eq_false c3
          clear c3
          simp only [Option.some.injEq, Prod.mk.injEq] at H
          obtain ⟨rfl, rfl⟩ := H
          go_wp2
          repeat (go_quiet (fail); try go_wp2)
          go_ret2
          exact ⟨by first | rfl | (simp [errW_none, errW_some] <;> rfl) | (simp [*, errW_none, errW_some] <;> rfl), by repeat (first | (with_reducible first | exact HB.out | apply below_alloc | apply pw_below_drewN | apply below_drew1) | exact HB.out)⟩
  · rw [if_neg c2] at H
    exact absurd H (by simp)

/-! ### rope_old: function 70 -/
def rope_old.l0 : Nat → Int → Int → List (S47) → Int → Int → Option (Int)
  | 0, _, _, _, _, _ => none
  | k + 1, x1, x5, x8, x9, x10 => if x10 < x9 then (if 0 ≤ x10 then (if x10 < (x8.length : Int) then (if (wrap64 ((wrap64 (((rd_T47 x8 x10).f0) + x5)) + (((rd_T47 x8 x10).f2).size : Int))) > x1 then (some (wrap64 (x1 - x5))) else (rope_old.l0 k x1 (wrap64 (x5 + (wrap64 ((((rd_T47 x8 x10).f2).size : Int) - (wrap64 (((rd_T47 x8 x10).f1) - ((rd_T47 x8 x10).f0))))))) x8 x9 (wrap64 (x10 + 1)))) else (none)) else (none)) else (some (wrap64 (x1 - x5)))
def rope_old.f (k : Nat) (l0 : List (S47)) (a1 : Int) : Option (Int) := rope_old.l0 k a1 0 l0 (l0.length : Int) 0
set_option maxHeartbeats 8000000 in
set_option maxRecDepth 100000 in
theorem rope_old.calls (k : Nat) (A0 : Option Addr) (c0 : Nat) (l0 : List (S47)) (a1 : Int) (r : Int) (w : World) (hr0 : Kd.C k47 w A0 l0.length l0) (hc0 : l0.length ≤ c0) (h : rope_old.f k l0 a1 = some r) :
    Calls Try.prog 70 #[.slice A0 l0.length c0, .int .i64 a1] w fun e w' => e = .returned (.int .i64 r) ∧ Below w.heap.size w w' := by
  have hu47 := Try.underlying47
  have HR0 := Aside0.mk hr0
  have HC0 := Aside0.mk hc0
  clear hr0 hc0
  have HB := Aside0.mk (Below.refl w.heap.size w)
  have H : (rope_old.l0 k a1 0 l0 (l0.length : Int) 0) = some r := h
  clear h
  have H' := Aside0.mk H
  clear H
  go_enter Try.func70, Try.ntmps70
  go_wp2
  go_loopg [5, 10] k (fun kq v5 v10 w' => ∃ (x5_1 : Int) (x10_1 : Int), v5 = .int .i64 x5_1 ∧ v10 = .int .i64 x10_1 ∧ Aside0 (rope_old.l0 kq a1 x5_1 l0 (l0.length : Int) x10_1 = some r) ∧ Aside0 (kq ≤ k) ∧ Aside0 (Below w.heap.size w w'))
  case atStart => exact ⟨(0), (0), (by first | rfl | (simp; done) | (simp [*]; done)), (by first | rfl | (simp; done) | (simp [*]; done)), H', ⟨Nat.le_refl _⟩, ⟨by repeat (first | (with_reducible first | exact HB.out | apply below_alloc | apply pw_below_drewN | apply below_drew1) | exact HB.out)⟩⟩
  case round =>
    clear H'
    try clear p2
    obtain ⟨x5_1, x10_1, rfl, rfl, HA, HK1, HB⟩ := hrel
    cases gk with
    | zero => exact absurd HA.out (by simp [rope_old.l0])
    | succ k1 =>
      have H := HA.out
      clear HA
      simp only [rope_old.l0] at H
      by_cases c3 : x10_1 < (l0.length : Int)
      · rw [if_pos c3] at H
        have c3b0 : decide (x10_1 < (l0.length : Int)) = true := decide_eq_true c3
        clear c3
        by_cases c4 : 0 ≤ x10_1
        · rw [if_pos c4] at H
          have c4b0 : decide (0 ≤ x10_1) = true := decide_eq_true c4
          clear c4
          by_cases c5 : x10_1 < (l0.length : Int)
          · rw [if_pos c5] at H
            have c5b0 : decide (x10_1 < (l0.length : Int)) = true := decide_eq_true c5
            clear c5
            by_cases c6 : (wrap64 ((wrap64 (((rd_T47 l0 x10_1).f0) + x5_1)) + (((rd_T47 l0 x10_1).f2).size : Int))) > a1
            · rw [if_pos c6] at H
              have c6b0 : decide (a1 < (wrap64 ((wrap64 (((rd_T47 l0 x10_1).f0) + x5_1)) + (((rd_T47 l0 x10_1).f2).size : Int)))) = true := decide_eq_true c6
              clear c6
              obtain rfl := Option.some.inj H
              have p147 : 0 ≤ (x10_1 : Int) := of_decide_eq_true (by first | (with_reducible assumption) | assumption)
              have q147 : x10_1 < (l0.length : Int) := of_decide_eq_true (by first | (with_reducible assumption) | assumption)
              obtain ⟨ad147, e147, hx147_0, hx147_1, hx147_2⟩ := at_T47 HR0.out x10_1 p147 q147
              cases e147
              replace hx147_0 := (HB.out.cell (World.block_lt_of_cell? w _ hx147_0)).trans hx147_0
              replace hx147_1 := (HB.out.cell (World.block_lt_of_cell? w _ hx147_1)).trans hx147_1
              replace hx147_2 := (HB.out.cell (World.block_lt_of_cell? w _ hx147_2)).trans hx147_2
              replace p147 := eq_true p147
              replace q147 := eq_true q147
              go_wp2_with (first | ((with_reducible refine gate_dst (N := 7) rfl ?_); refine box_event ?hg (N := 7) ?hd (cs := #[.int .i64 0, .int .i64 0, .string (⟨#[]⟩ : ByteArray)]) (t := 47) ?hr ?_; (case hd => rfl); (case hg => rfl); (case hr => first | (go_simp; done) | (go_simp; rfl)); intro gb148 hg w7 hbox hb; have n0_ := Aside0.mk (below_step (by repeat (first | (with_reducible first | exact HB.out | apply below_alloc | apply pw_below_drewN | apply below_drew1) | exact HB.out)) hb); have n1_ := Aside0.mk (hbox); have n2_ := Aside0.mk ((by rw [hg]; exact (below_size (by repeat (first | (with_reducible first | exact HB.out | apply below_alloc | apply pw_below_drewN | apply below_drew1) | exact HB.out))) : w.heap.size ≤ gb148)); have n3_ := Aside0.mk ((by rw [hg]; exact (below_size (by repeat (first | (with_reducible first | exact HB.out | apply below_alloc | apply pw_below_drewN | apply below_drew1) | exact HB.out))) : w.heap.size ≤ gb148)); clear HB; have HB := n0_; have BK148 := n1_; have GW148 := n2_; have GE148 := n3_; clear n0_ n1_ n2_ n3_; clear hb hbox hg; have hcz8_0 : w7.cell? ⟨gb148, 0, none⟩ = some (.int .i64 0) := (blk_cell BK148.out 0).trans rfl; have hcz8_1 : w7.cell? ⟨gb148, 1, none⟩ = some (.int .i64 0) := (blk_cell BK148.out 1).trans rfl; have hcz8_2 : w7.cell? ⟨gb148, 2, none⟩ = some (.string (⟨#[]⟩ : ByteArray)) := (blk_cell BK148.out 2).trans rfl; have hfz8_0 := blk_frozen BK148.out 0; have hfz8_1 := blk_frozen BK148.out 1; have hfz8_2 := blk_frozen BK148.out 2))
              go_ret
              exact ⟨by first | rfl | (simp [errW_none, errW_some] <;> rfl) | (simp [*, errW_none, errW_some] <;> rfl), by repeat (first | (with_reducible first | exact HB.out | apply below_alloc | apply pw_below_drewN | apply below_drew1 | refine below_set ?_ GE148.out) | exact HB.out)⟩
            · rw [if_neg c6] at H
              have c6b0 : decide (a1 < (wrap64 ((wrap64 (((rd_T47 l0 x10_1).f0) + x5_1)) + (((rd_T47 l0 x10_1).f2).size : Int)))) = false := decide_eq_false c6
              clear c6
              have H' := Aside0.mk H
              clear H
              have p147 : 0 ≤ (x10_1 : Int) := of_decide_eq_true (by first | (with_reducible assumption) | assumption)
              have q147 : x10_1 < (l0.length : Int) := of_decide_eq_true (by first | (with_reducible assumption) | assumption)
              obtain ⟨ad147, e147, hx147_0, hx147_1, hx147_2⟩ := at_T47 HR0.out x10_1 p147 q147
              cases e147
              replace hx147_0 := (HB.out.cell (World.block_lt_of_cell? w _ hx147_0)).trans hx147_0
              replace hx147_1 := (HB.out.cell (World.block_lt_of_cell? w _ hx147_1)).trans hx147_1
              replace hx147_2 := (HB.out.cell (World.block_lt_of_cell? w _ hx147_2)).trans hx147_2
              replace p147 := eq_true p147
              replace q147 := eq_true q147
              go_wp2_with (first | ((with_reducible refine gate_dst (N := 7) rfl ?_); refine box_event ?hg (N := 7) ?hd (cs := #[.int .i64 0, .int .i64 0, .string (⟨#[]⟩ : ByteArray)]) (t := 47) ?hr ?_; (case hd => rfl); (case hg => rfl); (case hr => first | (go_simp; done) | (go_simp; rfl)); intro gb148 hg w9 hbox hb; have n0_ := Aside0.mk (below_step (by repeat (first | (with_reducible first | exact HB.out | apply below_alloc | apply pw_below_drewN | apply below_drew1) | exact HB.out)) hb); have n1_ := Aside0.mk (hbox); have n2_ := Aside0.mk ((by rw [hg]; exact (below_size (by repeat (first | (with_reducible first | exact HB.out | apply below_alloc | apply pw_below_drewN | apply below_drew1) | exact HB.out))) : w.heap.size ≤ gb148)); have n3_ := Aside0.mk ((by rw [hg]; exact (below_size (by repeat (first | (with_reducible first | exact HB.out | apply below_alloc | apply pw_below_drewN | apply below_drew1) | exact HB.out))) : w.heap.size ≤ gb148)); clear HB; have HB := n0_; have BK148 := n1_; have GW148 := n2_; have GE148 := n3_; clear n0_ n1_ n2_ n3_; clear hb hbox hg; have hcz10_0 : w9.cell? ⟨gb148, 0, none⟩ = some (.int .i64 0) := (blk_cell BK148.out 0).trans rfl; have hcz10_1 : w9.cell? ⟨gb148, 1, none⟩ = some (.int .i64 0) := (blk_cell BK148.out 1).trans rfl; have hcz10_2 : w9.cell? ⟨gb148, 2, none⟩ = some (.string (⟨#[]⟩ : ByteArray)) := (blk_cell BK148.out 2).trans rfl; have hfz10_0 := blk_frozen BK148.out 0; have hfz10_1 := blk_frozen BK148.out 1; have hfz10_2 := blk_frozen BK148.out 2))
              go_roundg k1
              case measure => have := HK1.out; omega
              case rel => exact ⟨(wrap64 (x5_1 + (wrap64 ((((rd_T47 l0 x10_1).f2).size : Int) - (wrap64 (((rd_T47 l0 x10_1).f1) - ((rd_T47 l0 x10_1).f0))))))), (wrap64 (x10_1 + 1)), (by first | rfl | (simp; done) | (simp [*]; done)), (by first | rfl | (simp; done) | (simp [*]; done)), H', ⟨by have := HK1.out; omega⟩, ⟨by repeat (first | (with_reducible first | exact HB.out | apply below_alloc | apply pw_below_drewN | apply below_drew1 | refine below_set ?_ GE148.out) | exact HB.out)⟩⟩
          · rw [if_neg c5] at H
            exact absurd H (by simp)
        · rw [if_neg c4] at H
          exact absurd H (by simp)
      · rw [if_neg c3] at H
        have c3b0 : decide (x10_1 < (l0.length : Int)) = false := decide_eq_false c3
        clear c3
        obtain rfl := Option.some.inj H
        go_wp2
        go_ret
        exact ⟨by first | rfl | (simp [errW_none, errW_some] <;> rfl) | (simp [*, errW_none, errW_some] <;> rfl), by repeat (first | (with_reducible first | exact HB.out | apply below_alloc | apply pw_below_drewN | apply below_drew1) | exact HB.out)⟩

end Go.Proofs.Ytfllpoonfhiipaa.P

set_option linter.unusedVariables false
set_option linter.unusedSimpArgs false
namespace Go.Proofs.Ytfllpoonfhiipaa.P
open Go.RowKit Go.Proofs.YtfllpoonfhiipaaW.PrintWords Go.Proofs.YtfllpoonfhiipaaW.PrintLast Go.Proofs.YtfllpoonfhiipaaW.PrintMore
/-! ### rounds -/
theorem Ev.shift {α : Type} {g : Nat → Option α} {r : α} (h : Ev (fun k => g (k + 1)) r) : Ev g r := Ev.step (fun _ => rfl) h
theorem Ev.pos {α : Type} {c : Prop} [Decidable c] {f g : Nat → Option α} {r : α} (h : c) (k : Ev f r) : Ev (fun n => if c then f n else g n) r := by
  simp only [if_pos h]
  exact k
theorem Ev.neg {α : Type} {c : Prop} [Decidable c] {f g : Nat → Option α} {r : α} (h : ¬ c) (k : Ev g r) : Ev (fun n => if c then f n else g n) r := by
  simp only [if_neg h]
  exact k
theorem Ev.bind1 {α β : Type} {o : Option α} {f : Nat → α → Option β} {a : α} {r : β} (h : o = some a) (k : Ev (fun n => f n a) r) : Ev (fun n => o.bind (f n)) r := by
  rw [h]
  exact k
theorem w64 {n : Int} (h : -9223372036854775808 ≤ n) (h' : n ≤ 9223372036854775807) : wrap64 n = n := by unfold wrap64; omega
abbrev Ed := S47
theorem rd_at {l : List Ed} {i : Nat} {e : Ed} {r : List Ed} (h : l.drop i = e :: r) : rd_T47 l (i : Int) = e := by
  have h1 : l[i]? = some e := by
    have := congrArg (fun x : List Ed => x[0]?) h
    simpa [List.getElem?_drop] using this
  simp [rd_T47, List.getD_eq_getElem?_getD, h1]
theorem lt_of_drop {α : Type} {l : List α} {i : Nat} {e : α} {r : List α} (h : l.drop i = e :: r) : i < l.length := by
  have := congrArg List.length h
  simp at this
  omega
theorem drop_next {α : Type} {l : List α} {i : Nat} {e : α} {r : List α} (h : l.drop i = e :: r) : l.drop (i + 1) = r := by
  have := congrArg (List.drop 1) h
  simpa [List.drop_drop, Nat.add_comm] using this
theorem le_of_nil {α : Type} {l : List α} {i : Nat} (h : l.drop i = []) : l.length ≤ i := by
  have := congrArg List.length h
  simp at this
  omega

/-! ### Short, Cut -/
theorem mn_nat (a b : Nat) : mn (a : Int) (b : Int) = ((min a b : Nat) : Int) := by unfold mn; (repeat' split) <;> omega
theorem mx_nat (a b : Nat) : mx (a : Int) (b : Int) = ((max a b : Nat) : Int) := by unfold mx; (repeat' split) <;> omega
def short (s : ByteArray) : ByteArray := s.extract 0 (min s.size 20001)
theorem Short_eq (s : ByteArray) : marginaliaref01_Short.f s = some (short s) := by
  have h : mn (s.size : Int) 20001 = ((min s.size 20001 : Nat) : Int) := mn_nat s.size 20001
  unfold marginaliaref01_Short.f
  rw [h, if_pos (by omega), if_pos (by omega)]
  simp [short]
theorem short_size (s : ByteArray) : (short s).size ≤ 20001 := by
  simp only [short, ByteArray.size_extract]
  omega
/-- An edit whose numbers are ints. -/
def Ok (e : Ed) : Prop := (-9223372036854775808 ≤ e.f0 ∧ e.f0 ≤ 9223372036854775807) ∧ (-9223372036854775808 ≤ e.f1 ∧ e.f1 ≤ 9223372036854775807)
def cutE (n : Nat) (e : Ed) : Ed := ⟨e.f0, e.f1, e.f2.extract 0 (min e.f2.size n)⟩
def cut (n : Nat) (l : List Ed) : List Ed := (l.take 102).map (cutE n)
theorem Cut_loop (l : List Ed) (n : Nat) (hl : l.length ≤ 9223372036854775807) : ∀ (d i : Nat) (acc : List Ed), 102 - i = d → i ≤ 102 → acc.length ≤ 102 → acc.length = i →
    Ev (fun k => marginaliaref01_Cut.l0 k l (n : Int) acc (i : Int)) (acc ++ ((l.drop i).take (102 - i)).map (cutE n)) := by
  intro d
  induction d with
  | zero =>
    intro i acc hd hi ha hai
    refine Ev.shift ?_
    simp only [marginaliaref01_Cut.l0]
    rw [show 102 - i = 0 by omega]
    by_cases hlt : (i : Int) < (l.length : Int)
    · refine Ev.pos hlt (Ev.neg (by omega) ?_)
      simpa using Ev.now acc
    · refine Ev.neg hlt ?_
      simpa using Ev.now acc
  | succ d ih =>
    intro i acc hd hi ha hai
    refine Ev.shift ?_
    simp only [marginaliaref01_Cut.l0]
    cases hdr : l.drop i with
    | nil =>
      have := le_of_nil hdr
      refine Ev.neg (by omega) ?_
      simpa using Ev.now acc
    | cons e r =>
      have hlt := lt_of_drop hdr
      rw [rd_at hdr, mn_nat]
      refine Ev.pos (by omega) (Ev.pos (by omega) (Ev.pos (by omega) (Ev.pos (by omega) (Ev.pos (by omega) (Ev.pos (by omega) ?_)))))
      rw [w64 (by omega) (by omega)]
      have h := ih (i + 1) (acc ++ [cutE n e]) (by omega) (by omega) (by simp; omega) (by simp; omega)
      rw [drop_next hdr] at h
      rw [show 102 - i = (102 - (i + 1)) + 1 by omega]
      simpa [cutE] using h
theorem Cut_ev (l : List Ed) (n : Nat) (hl : l.length ≤ 9223372036854775807) : Ev (fun k => marginaliaref01_Cut.f k l (n : Int)) (cut n l) := by
  have h := Cut_loop l n hl 102 0 [] rfl (by omega) (by simp) rfl
  simpa [cut, marginaliaref01_Cut.f] using h
theorem cut_length (n : Nat) (l : List Ed) : (cut n l).length ≤ 102 := by simp [cut]; omega
/-- What Cut leaves. -/
def Fine (n : Nat) (l : List Ed) : Prop := l.length ≤ 102 ∧ ∀ e ∈ l, Ok e ∧ e.f2.size ≤ n
theorem cut_fine {n : Nat} {l : List Ed} (h : ∀ e ∈ l, ok47 e) : Fine n (cut n l) := by
  refine ⟨cut_length n l, fun e he => ?_⟩
  obtain ⟨x, hx, rfl⟩ := List.mem_map.1 he
  have := h x (List.mem_of_mem_take hx)
  refine ⟨⟨this.1, this.2.1⟩, ?_⟩
  simp only [cutE, ByteArray.size_extract]
  omega

/-! ### Check -/
def sp (m : Int) : Int → List Ed → Bool
  | _, [] => true
  | p, e :: r => decide (p ≤ e.f0) && (decide (e.f0 ≤ e.f1) && (decide (e.f1 ≤ m) && sp m e.f1 r))
theorem sp_cons {m p : Int} {e : Ed} {r : List Ed} (h : sp m p (e :: r) = true) : p ≤ e.f0 ∧ e.f0 ≤ e.f1 ∧ e.f1 ≤ m ∧ sp m e.f1 r = true := by
  simpa [sp] using h
def spanSum (l : List Ed) : Int := (l.map fun e => e.f1 - e.f0).sum
def newSum (l : List Ed) : Nat := (l.map fun e => e.f2.size).sum
theorem spanSum_cons (e : Ed) (r : List Ed) : spanSum (e :: r) = (e.f1 - e.f0) + spanSum r := by simp [spanSum]
theorem newSum_cons (e : Ed) (r : List Ed) : newSum (e :: r) = e.f2.size + newSum r := by simp [newSum]
theorem span_le {m : Int} : ∀ {p : Int} {l : List Ed}, sp m p l = true → p ≤ m → 0 ≤ spanSum l ∧ spanSum l ≤ m - p
  | p, [], _, hp => by simp [spanSum]; omega
  | p, e :: r, h, hp => by
    obtain ⟨h1, h2, h3, h4⟩ := sp_cons h
    have := span_le h4 h3
    rw [spanSum_cons]
    omega
theorem newSum_le {n : Nat} {l : List Ed} (h : ∀ e ∈ l, Ok e ∧ e.f2.size ≤ n) : newSum l ≤ l.length * n := by
  induction l with
  | nil => simp [newSum]
  | cons e r ih =>
    have h1 := (h e (by simp)).2
    have h2 := ih (fun x hx => h x (by simp [hx]))
    rw [newSum_cons, List.length_cons, Nat.add_mul, Nat.one_mul]
    omega
/-- Edits that are few, with News that are not long together. -/
def Fit (l : List Ed) : Prop := l.length ≤ 102 ∧ newSum l ≤ 1000000
theorem Fine.fit {n : Nat} {l : List Ed} (hf : Fine n l) (hn : n ≤ 9000) : Fit l := by
  have h1 := newSum_le hf.2
  have h2 : l.length * n ≤ 102 * 9000 := Nat.mul_le_mul hf.1 hn
  exact ⟨hf.1, by omega⟩
/-- The error of edits of a text of so many bytes. -/
def chk (n : Int) (l : List Ed) : Int :=
  if n > 20000 then 3 else if (l.length : Int) > 100 then 3 else if sp n 0 l = true then (if n - spanSum l + newSum l > 20000 then 7 else 0) else 2
theorem spans_loop (l : List Ed) (m : Int) (hl : l.length ≤ 9223372036854775807) : ∀ (r : List Ed) (i : Nat) (p : Int), l.drop i = r →
    Ev (fun k => rope_spans.l0 k m p l (l.length : Int) (i : Int)) (if sp m p r = true then 0 else 2) := by
  intro r
  induction r with
  | nil =>
    intro i p hd
    have := le_of_nil hd
    refine Ev.shift ?_
    simp only [rope_spans.l0]
    refine Ev.neg (by omega) ?_
    simpa [sp] using Ev.now (0 : Int)
  | cons e r ih =>
    intro i p hd
    have hlt := lt_of_drop hd
    refine Ev.shift ?_
    simp only [rope_spans.l0]
    rw [rd_at hd]
    refine Ev.pos (by omega) (Ev.pos (by omega) (Ev.pos (by omega) ?_))
    by_cases h1 : e.f0 < p
    · refine Ev.pos h1 ?_
      rw [if_neg (by simp [sp]; intro h; omega)]
      exact Ev.now _
    refine Ev.neg h1 ?_
    by_cases h2 : e.f1 < e.f0
    · refine Ev.pos h2 ?_
      rw [if_neg (by simp [sp]; intro _ h; omega)]
      exact Ev.now _
    refine Ev.neg h2 ?_
    by_cases h3 : e.f1 > m
    · refine Ev.pos h3 ?_
      rw [if_neg (by simp [sp]; intro _ _ h; omega)]
      exact Ev.now _
    refine Ev.neg h3 ?_
    rw [w64 (by omega) (by omega)]
    have h := ih (i + 1) e.f1 (drop_next hd)
    have e1 : sp m p (e :: r) = sp m e.f1 r := by
      simp only [sp]
      rw [decide_eq_true (by omega), decide_eq_true (by omega), decide_eq_true (by omega)]
      rfl
    rw [e1]
    simpa using h
theorem spans_ev (l : List Ed) (m : Int) (hl : l.length ≤ 9223372036854775807) : Ev (fun k => rope_spans.f k m l) (if (l.length : Int) > 100 then 3 else if sp m 0 l = true then 0 else 2) := by
  unfold rope_spans.f
  by_cases h : (l.length : Int) > 100
  · rw [if_pos h]
    exact Ev.pos h (Ev.now _)
  · rw [if_neg h]
    exact Ev.neg h (spans_loop l m hl l 0 0 rfl)
theorem check_l1 (l : List Ed) (hl : l.length ≤ 9223372036854775807) (hn : newSum l ≤ 1000000) : ∀ (r : List Ed) (i : Nat) (x : Int), l.drop i = r → 0 ≤ x → x ≤ 20000 → newSum r ≤ 1000000 →
    Ev (fun k => rope_check.l1 k x l (l.length : Int) (i : Int)) (if x + newSum r > 20000 then 7 else 0) := by
  intro r
  induction r with
  | nil =>
    intro i x hd hx hx2 _
    have := le_of_nil hd
    refine Ev.shift ?_
    simp only [rope_check.l1]
    refine Ev.neg (by omega) ?_
    rw [if_neg (by simp [newSum]; omega)]
    exact Ev.now _
  | cons e r ih =>
    intro i x hd hx hx2 hns
    have hlt := lt_of_drop hd
    rw [newSum_cons] at hns ⊢
    refine Ev.shift ?_
    simp only [rope_check.l1]
    rw [rd_at hd]
    refine Ev.pos (by omega) (Ev.pos (by omega) (Ev.pos (by omega) ?_))
    rw [w64 (n := 20000 - x) (by omega) (by omega)]
    by_cases h1 : (e.f2.size : Int) > 20000 - x
    · rw [if_pos (by omega)]
      exact Ev.pos h1 (Ev.now _)
    · refine Ev.neg h1 ?_
      rw [w64 (n := x + _) (by omega) (by omega), w64 (by omega) (by omega)]
      have h := ih (i + 1) (x + e.f2.size) (drop_next hd) (by omega) (by omega) (by omega)
      rw [show x + (e.f2.size : Int) + (newSum r : Int) = x + ((e.f2.size + newSum r : Nat) : Int) by omega] at h
      simpa using h
theorem check_l0 (l : List Ed) (m : Int) (hm : m ≤ 20000) (hl : l.length ≤ 9223372036854775807) (hn : newSum l ≤ 1000000) : ∀ (r : List Ed) (i : Nat) (x p : Int), l.drop i = r → sp m p r = true → 0 ≤ p → p ≤ m → spanSum r ≤ x → x ≤ 20000 →
    Ev (fun k => rope_check.l0 k l x l (l.length : Int) (i : Int)) (if x - spanSum r + newSum l > 20000 then 7 else 0) := by
  intro r
  induction r with
  | nil =>
    intro i x p hd hs hp hp2 hx hx2
    have := le_of_nil hd
    refine Ev.shift ?_
    simp only [rope_check.l0]
    refine Ev.neg (by omega) ?_
    have hz : spanSum ([] : List Ed) = 0 := by simp [spanSum]
    rw [hz] at hx ⊢
    have h := check_l1 l hl hn l 0 x rfl hx hx2 hn
    simpa using h
  | cons e r ih =>
    intro i x p hd hs hp hp2 hx hx2
    have hlt := lt_of_drop hd
    obtain ⟨h1, h2, h3, h4⟩ := sp_cons hs
    have h5 := span_le h4 h3
    rw [spanSum_cons] at hx ⊢
    refine Ev.shift ?_
    simp only [rope_check.l0]
    rw [rd_at hd]
    refine Ev.pos (by omega) (Ev.pos (by omega) (Ev.pos (by omega) ?_))
    rw [w64 (n := e.f0 - e.f1) (by omega) (by omega), w64 (n := x + _) (by omega) (by omega), w64 (by omega) (by omega)]
    have h := ih (i + 1) (x + (e.f0 - e.f1)) e.f1 (drop_next hd) h4 (by omega) h3 (by omega) (by omega)
    rw [show x + (e.f0 - e.f1) - spanSum r = x - (e.f1 - e.f0 + spanSum r) by omega] at h
    simpa using h
theorem check_ev (s : ByteArray) (l : List Ed) (hs : s.size ≤ 9223372036854775807) (hf : Fit l) : Ev (fun k => rope_Check.f k s l) (chk s.size l) := by
  have hl : l.length ≤ 9223372036854775807 := by have := hf.1; omega
  have hns : newSum l ≤ 1000000 := hf.2
  unfold rope_Check.f chk
  by_cases h1 : (s.size : Int) > 20000
  · rw [if_pos h1]
    exact Ev.pos h1 (Ev.now _)
  rw [if_neg h1]
  refine Ev.neg h1 (Ev.bind (a := _) ?_ (Ev.now _))
  unfold rope_check.f
  refine Ev.bind (spans_ev l s.size hl) ?_
  by_cases h2 : (l.length : Int) > 100
  · simp only [if_pos h2]
    exact Ev.neg (by decide) (Ev.now _)
  simp only [if_neg h2]
  by_cases h3 : sp s.size 0 l = true
  · simp only [if_pos h3]
    have h4 := span_le h3 (by omega)
    exact Ev.pos (by simp) (check_l0 l s.size (by omega) hl hns l 0 s.size 0 rfl h3 (by omega) (by omega) (by omega) (by omega))
  · simp only [if_neg h3]
    exact Ev.neg (by decide) (Ev.now _)
/-- What a check that passed says. -/
theorem chk_ok {n : Int} {l : List Ed} (h : chk n l = 0) : n ≤ 20000 ∧ l.length ≤ 100 ∧ sp n 0 l = true ∧ n - spanSum l + newSum l ≤ 20000 := by
  unfold chk at h
  split at h
  · cases h
  split at h
  · cases h
  split at h
  · split at h
    · cases h
    · exact ⟨by omega, by omega, by assumption, by omega⟩
  · cases h
/-! ### Move -/
def grow (e : Ed) : Int := (e.f2.size : Int) - (e.f1 - e.f0)
/-! ### Apply -/
def ba (l : List UInt8) : ByteArray := ⟨l.toArray⟩
def cutS (s : ByteArray) (a b : Int) : List UInt8 := (s.extract a.toNat b.toNat).data.toList
theorem ba_size (l : List UInt8) : (ba l).size = l.length := by simp [ba, ByteArray.size]
theorem ba_list (l : List UInt8) : (ba l).data.toList = l := by simp [ba]
theorem list_ba (s : ByteArray) : ba s.data.toList = s := by
  apply ByteArray.ext
  simp [ba]
theorem ba_append (l : List UInt8) (s : ByteArray) : ba l ++ s = ba (l ++ s.data.toList) := by
  apply ByteArray.ext
  simp [ba]
theorem cutS_eq (s : ByteArray) (a b : Int) : cutS s a b = (s.data.toList.take b.toNat).drop a.toNat := by
  rw [cutS, ByteArray.data_extract, Array.toList_extract, List.extract_eq_take_drop, List.drop_take]
theorem cutS_length (s : ByteArray) (a b : Int) : (cutS s a b).length = min b.toNat s.size - a.toNat := by
  rw [cutS, Ut.size_data, ByteArray.size_extract]
def app (s : ByteArray) : Int → List Ed → List UInt8
  | p, [] => cutS s p s.size
  | p, e :: r => cutS s p e.f0 ++ e.f2.data.toList ++ app s e.f1 r
theorem app_length (s : ByteArray) : ∀ (l : List Ed) (p : Int), sp s.size p l = true → 0 ≤ p → p ≤ s.size → ((app s p l).length : Int) = s.size - p - spanSum l + newSum l
  | [], p, _, h0, h1 => by
    simp only [app, cutS_length, spanSum, newSum, List.map_nil, List.sum_nil]
    omega
  | e :: r, p, h, h0, h1 => by
    obtain ⟨h2, h3, h4, h5⟩ := sp_cons h
    have := app_length s r e.f1 h5 (by omega) h4
    rw [spanSum_cons, newSum_cons]
    simp only [app, List.length_append, cutS_length, Ut.size_data]
    omega
theorem go_eq (s : ByteArray) : ∀ (l : List Ed) (p : Int) (acc : List UInt8), sp s.size p l = true → 0 ≤ p → p ≤ s.size → acc.length + (app s p l).length ≤ 140737488355328 → rope_Apply.go s l p acc = some (acc ++ app s p l)
  | [], p, acc, _, h0, h1, hb => by
    have e : (s.extract p.toNat s.size).data.toList = app s p [] := by simp [app, cutS]
    have e2 : (s.extract p.toNat s.size).size = (app s p []).length := by rw [← e, Ut.size_data]
    unfold rope_Apply.go
    rw [if_pos h0, if_pos h1, e2, if_pos hb, e]
  | e :: r, p, acc, h, h0, h1, hb => by
    obtain ⟨h2, h3, h4, h5⟩ := sp_cons h
    have e1 : (s.extract p.toNat e.f0.toNat).data.toList = cutS s p e.f0 := rfl
    have e2 : (s.extract p.toNat e.f0.toNat).size = (cutS s p e.f0).length := by rw [← e1, Ut.size_data]
    simp only [app, List.length_append, Ut.size_data] at hb
    unfold rope_Apply.go
    rw [if_pos h0, if_pos h2, if_pos (by omega), e2, if_pos (by omega), e1, go_eq s r e.f1 _ h5 (by omega) h4 (by simp only [List.length_append, Ut.size_data]; omega)]
    simp [app]
theorem apply_ev (s : ByteArray) (l : List Ed) (hs : s.size ≤ 9223372036854775807) (hf : Fit l) : Ev (fun k => rope_Apply.f k s l) (if chk s.size l = 0 then ba (app s 0 l) else ⟨#[]⟩, chk s.size l) := by
  unfold rope_Apply.f
  refine Ev.bind (check_ev s l hs hf) ?_
  by_cases h : chk s.size l = 0
  · obtain ⟨h1, h2, h3, h4⟩ := chk_ok h
    have h5 := app_length s l 0 h3 (by omega) (by omega)
    rw [go_eq s l 0 [] h3 (by omega) (by omega) (by simp only [List.length_nil]; omega)]
    simp only [if_pos h, h]
    exact Ev.now _
  · simp only [if_neg h]
    exact Ev.now _
theorem rapply_loop (s : ByteArray) (l : List Ed) (hs : s.size ≤ 20000) (hl : l.length ≤ 102) : ∀ (r : List Ed) (i : Nat) (p : Int) (acc : List UInt8), l.drop i = r → sp s.size p r = true → 0 ≤ p → p ≤ s.size → acc.length + (app s p r).length ≤ 1000000 →
    Ev (fun k => marginaliaref01_Apply.l0 k s l (ba acc) p (i : Int)) (ba (acc ++ app s p r)) := by
  intro r
  induction r with
  | nil =>
    intro i p acc hd hsp h0 h1 hb
    have := le_of_nil hd
    have e : (s.extract p.toNat s.size).data.toList = app s p [] := by simp [app, cutS]
    have e2 : (s.extract p.toNat s.size).size = (app s p []).length := by rw [← e, Ut.size_data]
    refine Ev.shift ?_
    simp only [marginaliaref01_Apply.l0]
    refine Ev.neg (by omega) (Ev.pos h0 (Ev.pos h1 ?_))
    rw [ba_size, e2, ba_append, e]
    exact Ev.pos (by omega) (Ev.now _)
  | cons e r ih =>
    intro i p acc hd hsp h0 h1 hb
    have hlt := lt_of_drop hd
    obtain ⟨h2, h3, h4, h5⟩ := sp_cons hsp
    have e1 : (s.extract p.toNat e.f0.toNat).data.toList = cutS s p e.f0 := rfl
    have e2 : (s.extract p.toNat e.f0.toNat).size = (cutS s p e.f0).length := by rw [← e1, Ut.size_data]
    simp only [app, List.length_append, Ut.size_data] at hb
    refine Ev.shift ?_
    simp only [marginaliaref01_Apply.l0]
    rw [rd_at hd, ba_append, ba_append, ba_size, ba_size, e1, e2]
    refine Ev.pos (by omega) (Ev.pos (by omega) (Ev.pos h0 (Ev.pos h2 (Ev.pos (by omega) (Ev.pos (by omega) (Ev.pos (by simp only [List.length_append]; omega) ?_))))))
    rw [w64 (by omega) (by omega)]
    have h := ih (i + 1) e.f1 (acc ++ cutS s p e.f0 ++ e.f2.data.toList) (drop_next hd) h5 (by omega) h4 (by simp only [List.length_append, Ut.size_data]; omega)
    simpa [app] using h
theorem rapply_ev (s : ByteArray) (l : List Ed) (h : chk s.size l = 0) : Ev (fun k => marginaliaref01_Apply.f k s l) (ba (app s 0 l)) := by
  obtain ⟨h1, h2, h3, h4⟩ := chk_ok h
  have h5 := app_length s l 0 h3 (by omega) (by omega)
  have := rapply_loop s l (by omega) (by omega) l 0 0 [] rfl h3 (by omega) (by omega) (by simp only [List.length_nil]; omega)
  exact this

/-! ### Invert -/
def inv (s : ByteArray) : Int → List Ed → List Ed
  | _, [] => []
  | b, e :: r => ⟨e.f0 + b, e.f0 + b + e.f2.size, s.extract e.f0.toNat e.f1.toNat⟩ :: inv s (b + grow e) r
theorem inv_length (s : ByteArray) : ∀ (l : List Ed) (b : Int), (inv s b l).length = l.length
  | [], _ => rfl
  | e :: r, b => by simp [inv, inv_length s r]
theorem invert_loop (s : ByteArray) (l : List Ed) (hs : s.size ≤ 20000) (hl : l.length ≤ 102) : ∀ (r : List Ed) (i : Nat) (p b : Int) (acc : List Ed), l.drop i = r → sp s.size p r = true → 0 ≤ p → p ≤ s.size → -p ≤ b → b + newSum r ≤ 2000000 → acc.length ≤ i →
    Ev (fun k => rope_Invert.l0 k s acc b l (l.length : Int) (i : Int)) (acc ++ inv s b r, 0) := by
  intro r
  induction r with
  | nil =>
    intro i p b acc hd hsp h0 h1 hb hb2 ha
    have := le_of_nil hd
    refine Ev.shift ?_
    simp only [rope_Invert.l0, inv, List.append_nil]
    exact Ev.neg (by omega) (Ev.now _)
  | cons e r ih =>
    intro i p b acc hd hsp h0 h1 hb hb2 ha
    have hlt := lt_of_drop hd
    obtain ⟨h2, h3, h4, h5⟩ := sp_cons hsp
    rw [newSum_cons] at hb2
    refine Ev.shift ?_
    simp only [rope_Invert.l0]
    rw [rd_at hd]
    refine Ev.pos (by omega) (Ev.pos (by omega) (Ev.pos (by omega) (Ev.pos (by omega) (Ev.pos (by omega) (Ev.pos (by omega) (Ev.pos (by omega) ?_))))))
    rw [w64 (n := e.f1 - e.f0) (by omega) (by omega), w64 (n := (e.f2.size : Int) - _) (by omega) (by omega), w64 (n := b + _) (by omega) (by omega), w64 (n := (i : Int) + 1) (by omega) (by omega), w64 (n := e.f0 + b) (by omega) (by omega), w64 (by omega) (by omega)]
    have h := ih (i + 1) e.f1 (b + grow e) (acc ++ [⟨e.f0 + b, e.f0 + b + e.f2.size, s.extract e.f0.toNat e.f1.toNat⟩]) (drop_next hd) h5 (by omega) h4 (by unfold grow; omega) (by unfold grow; omega) (by simp; omega)
    simpa [grow, inv] using h
theorem invert_ev (s : ByteArray) (l : List Ed) (hs : s.size ≤ 9223372036854775807) (hf : Fit l) : Ev (fun k => rope_Invert.f k s l) (if chk s.size l = 0 then inv s 0 l else [], chk s.size l) := by
  unfold rope_Invert.f
  refine Ev.bind (check_ev s l hs hf) ?_
  by_cases h : chk s.size l = 0
  · obtain ⟨h1, h2, h3, h4⟩ := chk_ok h
    have h5 := span_le h3 (by omega)
    simp only [if_pos h, h]
    exact Ev.pos (by simp) (invert_loop s l (by omega) hf.1 l 0 0 0 [] rfl h3 (by omega) (by omega) (by omega) (by omega) (by simp))
  · simp only [if_neg h]
    exact Ev.now _
/-! ### Same -/
def sameB : List Ed → List Ed → Bool
  | [], [] => true
  | e :: r, f :: q => (e.f0 == f.f0 && (e.f1 == f.f1 && e.f2.toList == f.f2.toList)) && sameB r q
  | _, _ => false
theorem toList_inj {s t : ByteArray} (h : s.toList = t.toList) : s = t := by
  rw [Lib.toList_data, Lib.toList_data] at h
  rw [← list_ba s, ← list_ba t, h]
theorem sameB_refl : ∀ l : List Ed, sameB l l = true
  | [] => rfl
  | e :: r => by simp [sameB, sameB_refl r]
theorem sameB_eq : ∀ {l m : List Ed}, sameB l m = true → l = m
  | [], [], _ => rfl
  | [], _ :: _, h => by simp [sameB] at h
  | _ :: _, [], h => by simp [sameB] at h
  | e :: r, f :: q, h => by
    simp only [sameB, Bool.and_eq_true, beq_iff_eq] at h
    obtain ⟨⟨h1, h2, h3⟩, h4⟩ := h
    rw [sameB_eq h4]
    cases e
    cases f
    simp only at h1 h2 h3
    rw [h1, h2, toList_inj h3]
theorem same_loop (a b : List Ed) (hab : a.length = b.length) (hl : a.length ≤ 9223372036854775806) : ∀ (r q : List Ed) (i : Nat), a.drop i = r → b.drop i = q → Ev (fun k => marginaliaref01_Same.l0 k a b (i : Int)) (sameB r q) := by
  intro r
  induction r with
  | nil =>
    intro q i hd hq
    have h1 := le_of_nil hd
    have : q = [] := by rw [← hq]; exact List.drop_of_length_le (by omega)
    subst this
    refine Ev.shift ?_
    simp only [marginaliaref01_Same.l0]
    exact Ev.neg (by omega) (Ev.now _)
  | cons e r ih =>
    intro q i hd hq
    have hlt := lt_of_drop hd
    cases q with
    | nil => have := le_of_nil hq; omega
    | cons f q =>
      refine Ev.shift ?_
      simp only [marginaliaref01_Same.l0]
      rw [rd_at hd, rd_at hq]
      refine Ev.pos (by omega) (Ev.pos (by omega) (Ev.pos (by omega) ?_))
      rw [w64 (by omega) (by omega)]
      by_cases h : (!(e.f0 == f.f0) || (!(e.f1 == f.f1) || (!(e.f2.toList == f.f2.toList)))) = true
      · refine Ev.pos h ?_
        have : (e.f0 == f.f0 && (e.f1 == f.f1 && e.f2.toList == f.f2.toList)) = false := by
          cases g0 : (e.f0 == f.f0) <;> cases g1 : (e.f1 == f.f1) <;> cases g2 : (e.f2.toList == f.f2.toList) <;> simp [g0, g1, g2] at h ⊢
        simp only [sameB, this, Bool.false_and]
        exact Ev.now _
      · refine Ev.neg h ?_
        have : (e.f0 == f.f0 && (e.f1 == f.f1 && e.f2.toList == f.f2.toList)) = true := by
          cases g0 : (e.f0 == f.f0) <;> cases g1 : (e.f1 == f.f1) <;> cases g2 : (e.f2.toList == f.f2.toList) <;> simp [g0, g1, g2] at h ⊢
        simp only [sameB, this, Bool.true_and]
        have h2 := ih q (i + 1) (drop_next hd) (drop_next hq)
        simpa using h2
theorem same_ev (a b : List Ed) (hl : a.length ≤ 9223372036854775806) : Ev (fun k => marginaliaref01_Same.f k a b) (sameB a b) := by
  unfold marginaliaref01_Same.f
  by_cases h : a.length = b.length
  · exact Ev.pos (by omega) (same_loop a b h hl a b 0 rfl rfl)
  · have e : sameB a b = false := by
      cases hc : sameB a b
      · rfl
      · exact absurd (congrArg List.length (sameB_eq hc)) h
    rw [e]
    exact Ev.neg (by omega) (Ev.now _)
end Go.Proofs.Ytfllpoonfhiipaa.P

set_option linter.unusedVariables false
set_option linter.unusedSimpArgs false
namespace Go.Proofs.Ytfllpoonfhiipaa.SortW
open Go Go.RowKit Go.Proofs.Ytfllpoonfhiipaa Go.Proofs.Ytfllpoonfhiipaa.P Go.Proofs.YtfllpoonfhiipaaW.PrintWords Go.Proofs.YtfllpoonfhiipaaW.PrintLast Go.Proofs.YtfllpoonfhiipaaW.PrintMore
open Go.Proofs.Ytfllpoonfhiipaa.SortP
abbrev Pt := S93
def lo : Int → List Pt → Int
  | a, [] => a
  | a, p :: r => lo (mn a p.f0) r
def hi : Int → List Pt → Int
  | a, [] => a
  | a, p :: r => hi (mx a p.f1) r
def reach : List Pt → Int × Int
  | [] => (0, 0)
  | p :: r => (lo p.f0 (p :: r), hi p.f1 (p :: r))
/-- Parts of spans that are in a text. -/
def Bd (l : List Pt) : Prop := ∀ p ∈ l, 0 ≤ p.f0 ∧ p.f0 ≤ p.f1 ∧ p.f1 ≤ 20000
theorem lo_bd : ∀ (l : List Pt) (a : Int), Bd l → 0 ≤ a → a ≤ 20000 → 0 ≤ lo a l ∧ lo a l ≤ 20000
  | [], a, _, h0, h1 => ⟨h0, h1⟩
  | p :: r, a, hb, h0, h1 => by
    have hp := hb p List.mem_cons_self
    have hm : 0 ≤ mn a p.f0 ∧ mn a p.f0 ≤ 20000 := by unfold mn; split <;> omega
    exact lo_bd r _ (fun q hq => hb q (List.mem_cons_of_mem _ hq)) hm.1 hm.2
theorem hi_bd : ∀ (l : List Pt) (a : Int), Bd l → 0 ≤ a → a ≤ 20000 → 0 ≤ hi a l ∧ hi a l ≤ 20000
  | [], a, _, h0, h1 => ⟨h0, h1⟩
  | p :: r, a, hb, h0, h1 => by
    have hp := hb p List.mem_cons_self
    have hm : 0 ≤ mx a p.f1 ∧ mx a p.f1 ≤ 20000 := by unfold mx; split <;> omega
    exact hi_bd r _ (fun q hq => hb q (List.mem_cons_of_mem _ hq)) hm.1 hm.2
theorem reach_bd {l : List Pt} (h : Bd l) : (0 ≤ (reach l).1 ∧ (reach l).1 ≤ 20000) ∧ 0 ≤ (reach l).2 ∧ (reach l).2 ≤ 20000 := by
  cases l with
  | nil => exact ⟨⟨by decide, by decide⟩, by decide, by decide⟩
  | cons p r =>
    have hp := h p List.mem_cons_self
    exact ⟨lo_bd (p :: r) p.f0 h (by omega) (by omega), hi_bd (p :: r) p.f1 h (by omega) (by omega)⟩
theorem rd_pt {l : List Pt} {i : Nat} {e : Pt} {r : List Pt} (h : l.drop i = e :: r) : rd_T93 l (i : Int) = e := by
  have h1 : l[i]? = some e := by
    have := congrArg (fun x => x[0]?) h
    simpa [List.getElem?_drop] using this
  simp [rd_T93, List.getD_eq_getElem?_getD, h1]
theorem reach_loop (l : List Pt) (hl : l.length ≤ 1000000) : ∀ (r : List Pt) (i : Nat) (a b : Int), l.drop i = r → Ev (fun k => rope_reach.l0 k a b l (l.length : Int) (i : Int)) (lo a r, hi b r) := by
  intro r
  induction r with
  | nil =>
    intro i a b h
    have hle : l.length ≤ i := by
      rcases Nat.lt_or_ge i l.length with q | q
      · rw [List.drop_eq_getElem_cons q] at h; cases h
      · exact q
    refine Ev.shift ?_
    simp only [rope_reach.l0]
    exact Ev.neg (by omega) (Ev.now _)
  | cons e r ih =>
    intro i a b h
    have hlt : i < l.length := by
      rcases Nat.lt_or_ge i l.length with q | q
      · exact q
      · rw [List.drop_of_length_le q] at h; cases h
    have hn : l.drop (i + 1) = r := by
      rw [List.drop_eq_getElem_cons hlt] at h
      injection h
    refine Ev.shift ?_
    simp only [rope_reach.l0]
    rw [rd_pt h, w64 (n := (i : Int) + 1) (by omega) (by omega)]
    exact Ev.pos (by omega) (Ev.pos (by omega) (Ev.pos (by omega) (ih (i + 1) _ _ hn)))
theorem reach_ev (l : List Pt) (hl : l.length ≤ 1000000) (h0 : 0 < l.length) : Ev (fun k => rope_reach.f k l) (reach l) := by
  cases l with
  | nil => cases h0
  | cons p r =>
    unfold rope_reach.f
    rw [show (rd_T93 (p :: r) 0) = p from rfl]
    exact Ev.pos (by omega) (reach_loop (p :: r) hl (p :: r) 0 _ _ rfl)
/-- A slice of parts that lies in w0, not in block g. -/
def Grp (w0 : World) (g : Nat) (x : List Pt) (A : Option Addr) (n c : Nat) : Prop := n = x.length ∧ x.length ≤ c ∧ 0 < x.length ∧ x.length ≤ 1000000 ∧ Bd x ∧ Kd.C k93 w0 A x.length x ∧ ∀ ad, A = some ad → ad.block ≠ g
def key (x : List Pt) : Int := (reach x).1 * 1000000 + (reach x).2
theorem C_grown {w0 w : World} {g : Nat} {A : Option Addr} {n : Nat} {x : List Pt} (h : Kd.C k93 w0 A n x) (hg : w0.grownBy w (some g)) (ha : ∀ ad, A = some ad → ad.block ≠ g) : Kd.C k93 w A n x := by
  refine ⟨h.1, h.2.1, fun hn => ?_⟩
  obtain ⟨ad, e, hc⟩ := h.2.2 hn
  refine ⟨ad, e, fun j p hj => ?_⟩
  obtain ⟨c, h1, h2, h3⟩ := hc j p hj
  refine ⟨c, h1, ?_, fun i u hu => ?_⟩
  · obtain rfl := k93_open h2
    exact k93_mk w p
  · have h4 := h3 i u hu
    have hlt := World.block_lt_of_cell? w0 _ h4
    have hb := hg.block _ hlt (fun q => ha ad e (by
      have q2 := Option.some.inj q
      rw [← q2]
      unfold Addr.add
      split <;> rfl))
    exact (World.cell?_of_block hb).trans h4
set_option maxHeartbeats 8000000 in
set_option maxRecDepth 100000 in
theorem cmp_ok (g N : Nat) (w0 : World) : CmpOK ⟨Grp w0 g, N⟩ key g w0 := by
  intro w x y A n c A' n' c' hg hx hy
  obtain ⟨rfl, hx1, hx2, hx3, hx4, hx5, hx6⟩ := hx
  obtain ⟨rfl, hy1, hy2, hy3, hy4, hy5, hy6⟩ := hy
  obtain ⟨K1, hK1⟩ := reach_ev x hx3 hx2
  obtain ⟨K2, hK2⟩ := reach_ev y hy3 hy2
  have hb1 := reach_bd hx4
  have hb2 := reach_bd hy4
  have HC1 := Aside0.mk (rope_reach.calls K1 A c x (reach x).1 (reach x).2 w (C_grown hx5 hg hx6) hx1 (hK1 K1 (Nat.le_refl _)))
  have HC2 := Aside0.mk (fun (w2 : World) (hb : Below w.heap.size w w2) => rope_reach.calls K2 A' c' y (reach y).1 (reach y).2 w2 (Kd.C_below (C_grown hy5 hg hy6) hb) hy1 (hK2 K2 (Nat.le_refl _)))
  have hkx : key x = (reach x).1 * 1000000 + (reach x).2 := rfl
  have hky : key y = (reach y).1 * 1000000 + (reach y).2 := rfl
  have HK := Aside0.mk (And.intro hkx hky)
  clear hx5 hy5 hK1 hK2 hg hkx hky
  generalize (reach x).1 = f at *
  generalize (reach x).2 = t at *
  generalize (reach y).1 = f' at *
  generalize (reach y).2 = t' at *
  obtain ⟨⟨b1, b2⟩, b3, b4⟩ := hb1
  obtain ⟨⟨b5, b6⟩, b7, b8⟩ := hb2
  have v1 : IntKind.i64.wrap (f - f') = f - f' := by rw [i64_w]; unfold wrap64; omega
  have v2 : IntKind.i64.wrap (t - t') = t - t' := by rw [i64_w]; unfold wrap64; omega
  by_cases hff : f = f'
  · have d1 : (f != f') = false := bne_eq_false_iff_eq.mpr hff
    have HFF := Aside0.mk hff
    clear hff
    go_enter Try.func68, Try.ntmps68
    go_upto_region 2 with (go_at_call 69; refine HC1.out.mono ?_; rintro e w5 ⟨rfl, h5⟩; have HB5 := Aside0.mk h5; clear h5)
    go_wp2_with (go_at_call 69; refine (HC2.out _ HB5.out).mono ?_; rintro e w6 ⟨rfl, h6⟩; have HB6 := Aside0.mk (Kx.below_step HB5.out h6); clear h6)
    go_ret
    exact ⟨t - t', rfl, by rw [HK.out.1, HK.out.2, HFF.out]; omega, HB6.out⟩
  · have d1 : (f != f') = true := bne_iff_ne.mpr hff
    have HFF := Aside0.mk hff
    clear hff
    go_enter Try.func68, Try.ntmps68
    go_upto_region 2 with (go_at_call 69; refine HC1.out.mono ?_; rintro e w5 ⟨rfl, h5⟩; have HB5 := Aside0.mk h5; clear h5)
    go_wp2_with (go_at_call 69; refine (HC2.out _ HB5.out).mono ?_; rintro e w6 ⟨rfl, h6⟩; have HB6 := Aside0.mk (Kx.below_step HB5.out h6); clear h6)
    go_ret
    exact ⟨f - f', rfl, by rw [HK.out.1, HK.out.2]; have := HFF.out; omega, HB6.out⟩
end Go.Proofs.Ytfllpoonfhiipaa.SortW

set_option linter.unusedVariables false
namespace Go.Proofs.Ytfllpoonfhiipaa.SortW
open Go.Proofs.Ytfllpoonfhiipaa.SortP Go.Proofs.Ytfllpoonfhiipaa.P
def insG (x : List Pt) : List (List Pt) → List (List Pt)
  | [] => [x]
  | y :: r => if key y ≤ key x then y :: insG x r else x :: y :: r
def srtG (l : List (List Pt)) : List (List Pt) := l.foldl (fun acc x => insG x acc) []
def insZ (x : List Pt × Nat) : List (List Pt × Nat) → List (List Pt × Nat)
  | [] => [x]
  | y :: r => if key y.1 ≤ key x.1 then y :: insZ x r else x :: y :: r
theorem insZ_fst (x : List Pt × Nat) : ∀ l, (insZ x l).map Prod.fst = insG x.1 (l.map Prod.fst)
  | [] => rfl
  | y :: r => by
    simp only [insZ, List.map_cons, insG]
    split
    · rw [List.map_cons, insZ_fst x r]
    · rfl
theorem insZ_perm (x : List Pt × Nat) : ∀ l, (insZ x l).Perm (x :: l)
  | [] => List.Perm.refl _
  | y :: r => by
    simp only [insZ]
    split
    · exact ((insZ_perm x r).cons y).trans (List.Perm.swap x y r)
    · exact List.Perm.refl _
theorem insZ_srt (x : List Pt × Nat) : ∀ l : List (List Pt × Nat), Srt (fun p => key p.1) Prod.snd l → (∀ y ∈ l, y.2 < x.2) → Srt (fun p => key p.1) Prod.snd (insZ x l)
  | [], _, _ => List.pairwise_singleton _ _
  | y :: r, h, ht => by
    have hh := List.pairwise_cons.mp h
    simp only [insZ]
    split
    · rename_i c
      refine List.pairwise_cons.mpr ⟨fun z hz => ?_, insZ_srt x r hh.2 (fun z hz => ht z (List.mem_cons_of_mem _ hz))⟩
      rcases List.mem_cons.mp ((insZ_perm x r).mem_iff.mp hz) with q | q
      · subst q
        have := ht y List.mem_cons_self
        simp only [lt]
        omega
      · exact hh.1 z q
    · rename_i c
      refine List.pairwise_cons.mpr ⟨fun z hz => ?_, h⟩
      rcases List.mem_cons.mp hz with q | q
      · subst q
        simp only [lt]
        omega
      · have := hh.1 z q
        simp only [lt] at this ⊢
        omega
theorem foldZ : ∀ (l : List (List Pt)) (n : Nat) (acc : List (List Pt × Nat)), Srt (fun p => key p.1) Prod.snd acc → (∀ y ∈ acc, y.2 < n) →
    ∃ S, S.Perm (acc ++ l.zipIdx n) ∧ Srt (fun p => key p.1) Prod.snd S ∧ S.map Prod.fst = l.foldl (fun a x => insG x a) (acc.map Prod.fst)
  | [], n, acc, h, _ => ⟨acc, by simp, h, rfl⟩
  | x :: l, n, acc, h, ht => by
    obtain ⟨S, h1, h2, h3⟩ := foldZ l (n + 1) (insZ (x, n) acc) (insZ_srt _ _ h (fun y hy => ht y hy)) (fun y hy => by
      rcases List.mem_cons.mp ((insZ_perm (x, n) acc).mem_iff.mp hy) with q | q
      · subst q; exact Nat.lt_succ_self n
      · exact Nat.lt_succ_of_lt (ht y q))
    refine ⟨S, h1.trans ?_, h2, ?_⟩
    · rw [List.zipIdx_cons]
      refine ((insZ_perm (x, n) acc).append_right _).trans ?_
      exact (List.perm_middle (a := (x, n)) (l₁ := acc) (l₂ := l.zipIdx (n + 1))).symm
    · rw [h3, insZ_fst]
      rfl
theorem srt_is {l : List (List Pt)} {S : List (List Pt × Nat)} (hp : S.Perm l.zipIdx) (hs : Srt (fun p => key p.1) Prod.snd S) : S.map Prod.fst = srtG l := by
  obtain ⟨S', h1, h2, h3⟩ := foldZ l 0 [] List.Pairwise.nil (fun y hy => by cases hy)
  have he := srt_eq hs h2 (hp.trans (by simpa using h1.symm))
  rw [he, h3]
  rfl
end Go.Proofs.Ytfllpoonfhiipaa.SortW

set_option linter.unusedVariables false
namespace Go.Proofs.Ytfllpoonfhiipaa.MgS
open Go.Proofs.Ytfllpoonfhiipaa.LabP Go.Proofs.Ytfllpoonfhiipaa.MgL Go.Proofs.Ytfllpoonfhiipaa.SortW Go.Proofs.Ytfllpoonfhiipaa.SortP Go.Proofs.Ytfllpoonfhiipaa.P
def zP : Pt := ⟨0, 0, false, ⟨0, 0, ⟨#[]⟩⟩⟩
def pt (all : List Pt) (k : Nat) : Pt := all.getD k zP
def ixs (g : List Nat) (n l : Nat) : List Nat := (List.range n).filter (fun k => lab g k == l)
def cls (all : List Pt) (g : List Nat) (l : Nat) : List Pt := (ixs g all.length l).map (pt all)
def labs (all : List Pt) (g : List Nat) : List Nat := (List.range all.length).filter (fun l => !(cls all g l).isEmpty)
def rowsG (all : List Pt) (g : List Nat) : List (List Pt) := (labs all g).map (cls all g)
theorem mem_ixs {g : List Nat} {n l k : Nat} : k ∈ ixs g n l ↔ k < n ∧ lab g k = l := by simp [ixs]
theorem ixs_lt (g : List Nat) (n l : Nat) : (ixs g n l).Pairwise (· < ·) := List.Pairwise.filter _ List.pairwise_lt_range
/-- Two rising lists with the same members are one. -/
theorem rise_eq : ∀ {l m : List Nat}, l.Pairwise (· < ·) → m.Pairwise (· < ·) → (∀ k, k ∈ l ↔ k ∈ m) → l = m
  | [], [], _, _, _ => rfl
  | [], y :: m, _, _, h => absurd ((h y).mpr List.mem_cons_self) (by simp)
  | x :: l, [], _, _, h => absurd ((h x).mp List.mem_cons_self) (by simp)
  | x :: l, y :: m, hl, hm, h => by
    have hx := List.pairwise_cons.mp hl
    have hy := List.pairwise_cons.mp hm
    have e : x = y := by
      rcases List.mem_cons.mp ((h x).mp List.mem_cons_self) with q | q
      · exact q
      · rcases List.mem_cons.mp ((h y).mpr List.mem_cons_self) with r | r
        · exact r.symm
        · have h1 := hy.1 x q
          have h2 := hx.1 y r
          omega
    subst e
    refine congrArg (x :: ·) (rise_eq hx.2 hy.2 fun k => ?_)
    constructor
    · intro q
      rcases List.mem_cons.mp ((h k).mp (List.mem_cons_of_mem _ q)) with r | r
      · have := hx.1 k q
        omega
      · exact r
    · intro q
      rcases List.mem_cons.mp ((h k).mpr (List.mem_cons_of_mem _ q)) with r | r
      · have := hy.1 k q
        omega
      · exact r
/-- lo and hi of a row. -/
theorem lo_spec : ∀ (l : List Pt) (x : Int), lo x l ≤ x ∧ (∀ p ∈ l, lo x l ≤ p.f0) ∧ (lo x l = x ∨ ∃ p ∈ l, lo x l = p.f0)
  | [], x => ⟨Int.le_refl _, fun p hp => absurd hp (by simp), .inl rfl⟩
  | p :: r, x => by
    have h := lo_spec r (YtfllpoonfhiipaaW.PrintWords.mn x p.f0)
    have hm : (YtfllpoonfhiipaaW.PrintWords.mn x p.f0 = x ∧ x ≤ p.f0) ∨ (YtfllpoonfhiipaaW.PrintWords.mn x p.f0 = p.f0 ∧ p.f0 ≤ x) := by unfold YtfllpoonfhiipaaW.PrintWords.mn; split <;> omega
    simp only [lo]
    generalize YtfllpoonfhiipaaW.PrintWords.mn x p.f0 = m at *
    obtain ⟨h1, h2, h3⟩ := h
    refine ⟨by omega, fun q hq => ?_, ?_⟩
    · rcases List.mem_cons.mp hq with e | e
      · subst e; omega
      · exact h2 q e
    · rcases h3 with e | ⟨q, hq, e⟩
      · rcases hm with c | c
        · exact .inl (e.trans c.1)
        · exact .inr ⟨p, List.mem_cons_self, e.trans c.1⟩
      · exact .inr ⟨q, List.mem_cons_of_mem _ hq, e⟩
theorem hi_spec : ∀ (l : List Pt) (x : Int), x ≤ hi x l ∧ (∀ p ∈ l, p.f1 ≤ hi x l) ∧ (hi x l = x ∨ ∃ p ∈ l, hi x l = p.f1)
  | [], x => ⟨Int.le_refl _, fun p hp => absurd hp (by simp), .inl rfl⟩
  | p :: r, x => by
    have h := hi_spec r (YtfllpoonfhiipaaW.PrintWords.mx x p.f1)
    have hm : (YtfllpoonfhiipaaW.PrintWords.mx x p.f1 = x ∧ p.f1 ≤ x) ∨ (YtfllpoonfhiipaaW.PrintWords.mx x p.f1 = p.f1 ∧ x ≤ p.f1) := by unfold YtfllpoonfhiipaaW.PrintWords.mx; split <;> omega
    simp only [hi]
    generalize YtfllpoonfhiipaaW.PrintWords.mx x p.f1 = m at *
    obtain ⟨h1, h2, h3⟩ := h
    refine ⟨by omega, fun q hq => ?_, ?_⟩
    · rcases List.mem_cons.mp hq with e | e
      · subst e; omega
      · exact h2 q e
    · rcases h3 with e | ⟨q, hq, e⟩
      · rcases hm with c | c
        · exact .inl (e.trans c.1)
        · exact .inr ⟨p, List.mem_cons_self, e.trans c.1⟩
      · exact .inr ⟨q, List.mem_cons_of_mem _ hq, e⟩
theorem reach_spec {l : List Pt} (h : l ≠ []) : (∀ p ∈ l, (reach l).1 ≤ p.f0 ∧ p.f1 ≤ (reach l).2) ∧ (∃ p ∈ l, (reach l).1 = p.f0) ∧ ∃ p ∈ l, (reach l).2 = p.f1 := by
  cases l with
  | nil => exact absurd rfl h
  | cons p r =>
    obtain ⟨h1, h2, h3⟩ := lo_spec (p :: r) p.f0
    obtain ⟨k1, k2, k3⟩ := hi_spec (p :: r) p.f1
    refine ⟨fun q hq => ⟨h2 q hq, k2 q hq⟩, ?_, ?_⟩
    · rcases h3 with e | e
      · exact ⟨p, List.mem_cons_self, e⟩
      · exact e
    · rcases k3 with e | e
      · exact ⟨p, List.mem_cons_self, e⟩
      · exact e
section
variable {all : List Pt} {g : List Nat} {n1 : Nat}
def A (all : List Pt) (k : Nat) : Int := (pt all k).f0
def B (all : List Pt) (k : Nat) : Int := (pt all k).f1
def precC (all : List Pt) (g : List Nat) (n1 l l' : Nat) : Prop := ∀ k ∈ ixs g all.length l, ∀ k' ∈ ixs g all.length l', prec n1 (A all) (B all) k k'
theorem cls_mem {l : Nat} {p : Pt} : p ∈ cls all g l ↔ ∃ k, k < all.length ∧ lab g k = l ∧ pt all k = p := by
  simp only [cls, List.mem_map, mem_ixs, and_assoc]
theorem cls_ne {l : Nat} : cls all g l ≠ [] ↔ ∃ k, k < all.length ∧ lab g k = l := by
  constructor
  · intro h
    obtain ⟨p, hp⟩ := List.exists_mem_of_ne_nil _ h
    obtain ⟨k, h1, h2, _⟩ := cls_mem.mp hp
    exact ⟨k, h1, h2⟩
  · rintro ⟨k, h1, h2⟩ e
    have := cls_mem.mpr ⟨k, h1, h2, rfl⟩
    rw [e] at this
    cases this
theorem mem_labs {l : Nat} : l ∈ labs all g ↔ l < all.length ∧ ∃ k, k < all.length ∧ lab g k = l := by
  rw [← cls_ne]
  simp [labs]
theorem lab_self (hD : Done n1 all.length (A all) (B all) g) {l : Nat} (h : l ∈ labs all g) : l < all.length ∧ lab g l = l := by
  obtain ⟨h1, k, h2, h3⟩ := mem_labs.mp h
  have := hD.lb.fix k (by rw [hD.len]; exact h2)
  rw [h3] at this
  exact ⟨h1, this⟩
theorem class_cmp (hP : Pos n1 all.length (A all) (B all)) (hD : Done n1 all.length (A all) (B all) g) {l l' : Nat} (h : l ∈ labs all g) (h' : l' ∈ labs all g) (hne : l ≠ l') : precC all g n1 l l' ∨ precC all g n1 l' l := by
  obtain ⟨a1, a2⟩ := lab_self hD h
  obtain ⟨b1, b2⟩ := lab_self hD h'
  have hl : lab g l ≠ lab g l' := by rw [a2, b2]; exact hne
  rcases prec_total hP hD a1 b1 hl with c | c
  · exact .inl fun k hk k' hk' => by
      obtain ⟨k1, k2⟩ := mem_ixs.mp hk
      obtain ⟨k3, k4⟩ := mem_ixs.mp hk'
      exact prec_class hP hD a1 k1 b1 k3 (by rw [a2, k2]) (by rw [b2, k4]) hl c
  · exact .inr fun k hk k' hk' => by
      obtain ⟨k1, k2⟩ := mem_ixs.mp hk
      obtain ⟨k3, k4⟩ := mem_ixs.mp hk'
      exact prec_class hP hD b1 k1 a1 k3 (by rw [b2, k2]) (by rw [a2, k4]) (fun e => hl e.symm) c
theorem class_key (hb : Bd all) (hP : Pos n1 all.length (A all) (B all)) (hD : Done n1 all.length (A all) (B all) g) {l l' : Nat} (h : l ∈ labs all g) (h' : l' ∈ labs all g) (hp : precC all g n1 l l') : key (cls all g l) < key (cls all g l') ∨ key (cls all g l) = key (cls all g l') ∧ l < l' := by
  obtain ⟨a1, a2⟩ := lab_self hD h
  obtain ⟨b1, b2⟩ := lab_self hD h'
  have n1_ := cls_ne.mpr (mem_labs.mp h).2
  have n2_ := cls_ne.mpr (mem_labs.mp h').2
  obtain ⟨r1, ⟨p1, m1, e1⟩, p2, m2, e2⟩ := reach_spec n1_
  obtain ⟨s1, ⟨q1, m3, e3⟩, q2, m4, e4⟩ := reach_spec n2_
  have hbd : ∀ {i : Nat}, Bd (cls all g i) := fun {i} p hp => by
    obtain ⟨k, k1, k2, k3⟩ := cls_mem.mp hp
    refine hb p ?_
    rw [← k3, pt, List.getD_eq_getElem?_getD, List.getElem?_eq_getElem k1]
    exact List.getElem_mem k1
  have w1 := reach_bd (hbd (i := l))
  have w2 := reach_bd (hbd (i := l'))
  obtain ⟨k1, x1, x2, x3⟩ := cls_mem.mp m3
  obtain ⟨k2, y1, y2, y3⟩ := cls_mem.mp m2
  have hl1 := mem_ixs.mpr ⟨a1, a2⟩
  have hl2 := mem_ixs.mpr ⟨b1, b2⟩
  have g1 := prec_le hP a1 x1 (hp l hl1 k1 (mem_ixs.mpr ⟨x1, x2⟩))
  have g2 := prec_le hP y1 b1 (hp k2 (mem_ixs.mpr ⟨y1, y2⟩) l' hl2)
  have t1 := (r1 (pt all l) (cls_mem.mpr ⟨l, a1, a2, rfl⟩)).1
  have t2 := (s1 (pt all l') (cls_mem.mpr ⟨l', b1, b2, rfl⟩)).2
  have f1 : A all k1 = q1.f0 := by unfold A; rw [x3]
  have f2 : B all k2 = p2.f1 := by unfold B; rw [y3]
  have f3 : A all l = (pt all l).f0 := rfl
  have f4 : B all l' = (pt all l').f1 := rfl
  unfold key
  by_cases c : (reach (cls all g l)).1 < (reach (cls all g l')).1
  · left; omega
  · by_cases d : (reach (cls all g l)).2 < (reach (cls all g l')).2
    · left; omega
    · right
      refine ⟨by omega, ?_⟩
      have hpl := hp l hl1 l' hl2
      by_cases e : (l < n1 ↔ l' < n1)
      · unfold prec at hpl
        omega
      · by_cases f : l < n1
        · omega
        · -- the one's least is a two, the other one's a one: then the one has twos alone
          have hlt : ∀ k, k < all.length → lab g k = l → ¬ k < n1 := fun k hk hkl hk1 => by
            have := hD.lb.le k (by rw [hD.len]; exact hk)
            omega
          have hk2 := hlt k2 y1 y2
          have hp2 := hp k2 (mem_ixs.mpr ⟨y1, y2⟩) l' hl2
          have h5 := (prec_le hP y1 b1 hp2).2.2 (by omega)
          have h6 := hP.hab l' b1
          omega
def insL (all : List Pt) (g : List Nat) (x : Nat) : List Nat → List Nat
  | [] => [x]
  | y :: r => if key (cls all g y) ≤ key (cls all g x) then y :: insL all g x r else x :: y :: r
def srtL (all : List Pt) (g : List Nat) (ls : List Nat) : List Nat := ls.foldl (fun acc x => insL all g x acc) []
theorem insL_map (x : Nat) : ∀ l : List Nat, (insL all g x l).map (cls all g) = insG (cls all g x) (l.map (cls all g))
  | [] => rfl
  | y :: r => by
    simp only [insL, List.map_cons, insG]
    split
    · rw [List.map_cons, insL_map x r]
    · rfl
theorem foldL_map : ∀ (ls acc : List Nat), (ls.foldl (fun acc x => insL all g x acc) acc).map (cls all g) = (ls.map (cls all g)).foldl (fun acc x => insG x acc) (acc.map (cls all g))
  | [], _ => rfl
  | x :: r, acc => by
    simp only [List.foldl_cons, List.map_cons]
    rw [foldL_map r, insL_map]
theorem srtL_map (ls : List Nat) : (srtL all g ls).map (cls all g) = srtG (ls.map (cls all g)) := foldL_map ls []
theorem insL_mem (x : Nat) : ∀ (l : List Nat) (k : Nat), k ∈ insL all g x l ↔ k = x ∨ k ∈ l
  | [], k => by simp [insL]
  | y :: r, k => by
    simp only [insL]
    split
    · rw [List.mem_cons, insL_mem x r k, List.mem_cons]
      constructor
      · rintro (h | h | h)
        · exact .inr (.inl h)
        · exact .inl h
        · exact .inr (.inr h)
      · rintro (h | h | h)
        · exact .inr (.inl h)
        · exact .inl h
        · exact .inr (.inr h)
    · exact List.mem_cons
theorem precC_trans (hb : Bd all) (hP : Pos n1 all.length (A all) (B all)) (hD : Done n1 all.length (A all) (B all) g) {x y z : Nat} (hx : x ∈ labs all g) (hy : y ∈ labs all g) (hz : z ∈ labs all g) (h1 : precC all g n1 x y) (h2 : precC all g n1 y z) : precC all g n1 x z := by
  have k1 := class_key hb hP hD hx hy h1
  have k2 := class_key hb hP hD hy hz h2
  have hne : x ≠ z := by
    rintro rfl
    omega
  rcases class_cmp hP hD hx hz hne with c | c
  · exact c
  · have k3 := class_key hb hP hD hz hx c
    omega
theorem insL_prec (hb : Bd all) (hP : Pos n1 all.length (A all) (B all)) (hD : Done n1 all.length (A all) (B all) g) {x : Nat} (hx : x ∈ labs all g) : ∀ l : List Nat, (∀ y ∈ l, y ∈ labs all g ∧ y < x) → l.Pairwise (precC all g n1) → (insL all g x l).Pairwise (precC all g n1)
  | [], _, _ => List.pairwise_singleton _ _
  | y :: r, hm, hp => by
    have hh := List.pairwise_cons.mp hp
    obtain ⟨y1, y2⟩ := hm y List.mem_cons_self
    simp only [insL]
    split
    · rename_i c
      refine List.pairwise_cons.mpr ⟨fun z hz => ?_, insL_prec hb hP hD hx r (fun z hz => hm z (List.mem_cons_of_mem _ hz)) hh.2⟩
      rcases (insL_mem x r z).mp hz with q | q
      · subst q
        rcases class_cmp hP hD y1 hx (by omega) with d | d
        · exact d
        · have := class_key hb hP hD hx y1 d
          omega
      · exact hh.1 z q
    · rename_i c
      have hxy : precC all g n1 x y := by
        rcases class_cmp hP hD y1 hx (by omega) with d | d
        · have := class_key hb hP hD y1 hx d
          omega
        · exact d
      refine List.pairwise_cons.mpr ⟨fun z hz => ?_, hp⟩
      rcases List.mem_cons.mp hz with q | q
      · subst q
        exact hxy
      · exact precC_trans hb hP hD hx y1 (hm z (List.mem_cons_of_mem _ q)).1 hxy (hh.1 z q)
theorem fold_prec (hb : Bd all) (hP : Pos n1 all.length (A all) (B all)) (hD : Done n1 all.length (A all) (B all) g) : ∀ (ls acc : List Nat), (∀ x ∈ ls, x ∈ labs all g) → ls.Pairwise (· < ·) → (∀ y ∈ acc, y ∈ labs all g ∧ ∀ x ∈ ls, y < x) → acc.Pairwise (precC all g n1) →
    (ls.foldl (fun acc x => insL all g x acc) acc).Pairwise (precC all g n1) ∧ ∀ k, k ∈ ls.foldl (fun acc x => insL all g x acc) acc ↔ k ∈ acc ∨ k ∈ ls
  | [], acc, _, _, _, hp => ⟨hp, fun k => by simp⟩
  | x :: r, acc, hm, hl, ha, hp => by
    have hh := List.pairwise_cons.mp hl
    have hx := hm x List.mem_cons_self
    obtain ⟨h1, h2⟩ := fold_prec hb hP hD r (insL all g x acc) (fun z hz => hm z (List.mem_cons_of_mem _ hz)) hh.2 (fun y hy => by
      rcases (insL_mem x acc y).mp hy with q | q
      · subst q
        exact ⟨hx, hh.1⟩
      · exact ⟨(ha y q).1, fun z hz => (ha y q).2 z (List.mem_cons_of_mem _ hz)⟩) (insL_prec hb hP hD hx acc (fun y hy => ⟨(ha y hy).1, (ha y hy).2 x List.mem_cons_self⟩) hp)
    refine ⟨h1, fun k => ?_⟩
    simp only [List.foldl_cons]
    rw [h2 k, insL_mem, List.mem_cons]
    constructor
    · rintro ((h | h) | h)
      · exact .inr (.inl h)
      · exact .inl h
      · exact .inr (.inr h)
    · rintro (h | h | h)
      · exact .inl (.inr h)
      · exact .inl (.inl h)
      · exact .inr h
theorem srtL_prec (hb : Bd all) (hP : Pos n1 all.length (A all) (B all)) (hD : Done n1 all.length (A all) (B all) g) : (srtL all g (labs all g)).Pairwise (precC all g n1) ∧ ∀ k, k ∈ srtL all g (labs all g) ↔ k ∈ labs all g := by
  obtain ⟨h1, h2⟩ := fold_prec hb hP hD (labs all g) [] (fun x hx => hx) (List.Pairwise.filter _ List.pairwise_lt_range) (fun y hy => by cases hy) List.Pairwise.nil
  exact ⟨h1, fun k => by rw [srtL, h2 k]; simp⟩
end
end Go.Proofs.Ytfllpoonfhiipaa.MgS

set_option linter.unusedVariables false
namespace Go.Proofs.Ytfllpoonfhiipaa.MgS
open Go.Proofs.Ytfllpoonfhiipaa.LabP Go.Proofs.Ytfllpoonfhiipaa.MgL Go.Proofs.Ytfllpoonfhiipaa.SortW Go.Proofs.Ytfllpoonfhiipaa.SortP Go.Proofs.Ytfllpoonfhiipaa.P
theorem rise_split (n1 : Nat) : ∀ L : List Nat, L.Pairwise (· < ·) → L = L.filter (fun k => decide (k < n1)) ++ L.filter (fun k => !decide (k < n1))
  | [], _ => rfl
  | x :: r, h => by
    have hh := List.pairwise_cons.mp h
    have ih := rise_split n1 r hh.2
    by_cases c : x < n1
    · simp only [List.filter_cons, c, decide_true, if_true, Bool.not_true, Bool.false_eq_true, if_false, List.cons_append]
      rw [← ih]
    · have he : ∀ k ∈ r, ¬ k < n1 := fun k hk => by
        have := hh.1 k hk
        omega
      have h1 : r.filter (fun k => decide (k < n1)) = [] := by
        rw [List.filter_eq_nil_iff]
        intro k hk
        simpa using Nat.le_of_not_lt (he k hk)
      have h2 : r.filter (fun k => !decide (k < n1)) = r := by
        rw [List.filter_eq_self]
        intro k hk
        simpa using Nat.le_of_not_lt (he k hk)
      simp only [List.filter_cons, c, decide_false, Bool.false_eq_true, if_false, Bool.not_false, if_true, h1, h2, List.nil_append]
def Sep (G H : List Pt × List Pt) : Prop := (∀ p ∈ G.1, ∀ q ∈ H.2, p.f1 < q.f0) ∧ (∀ q ∈ G.2, ∀ p ∈ H.1, q.f1 < p.f0)
def osI (g : List Nat) (n n1 l : Nat) : List Nat := (ixs g n l).filter (fun k => decide (k < n1))
def tsI (g : List Nat) (n n1 l : Nat) : List Nat := (ixs g n l).filter (fun k => !decide (k < n1))
theorem mem_osI {g : List Nat} {n n1 l k : Nat} : k ∈ osI g n n1 l ↔ (k < n ∧ lab g k = l) ∧ k < n1 := by simp [osI, mem_ixs]
theorem mem_tsI {g : List Nat} {n n1 l k : Nat} : k ∈ tsI g n n1 l ↔ (k < n ∧ lab g k = l) ∧ ¬ k < n1 := by simp [tsI, mem_ixs]
section
variable {all : List Pt} {g : List Nat} {n1 : Nat}
theorem lab_mem (hD : Done n1 all.length (A all) (B all) g) {k : Nat} (hk : k < all.length) : lab g k ∈ labs all g := by
  have := hD.lb.le k (by rw [hD.len]; exact hk)
  exact mem_labs.mpr ⟨by omega, k, hk, rfl⟩
theorem os_flat (hb : Bd all) (hP : Pos n1 all.length (A all) (B all)) (hD : Done n1 all.length (A all) (B all) g) : ((srtL all g (labs all g)).map (osI g all.length n1)).flatten = List.range n1 := by
  obtain ⟨h1, h2⟩ := srtL_prec hb hP hD
  refine rise_eq (List.pairwise_flatten.mpr ⟨fun L hL => ?_, ?_⟩) List.pairwise_lt_range fun k => ?_
  · obtain ⟨l, _, rfl⟩ := List.mem_map.mp hL
    exact List.Pairwise.filter _ (ixs_lt _ _ _)
  · rw [List.pairwise_map]
    refine h1.imp fun {l l'} hp x hx y hy => ?_
    obtain ⟨x1, x2⟩ := mem_osI.mp hx
    obtain ⟨y1, y2⟩ := mem_osI.mp hy
    have := hp x (mem_ixs.mpr x1) y (mem_ixs.mpr y1)
    unfold prec at this
    omega
  · rw [List.mem_flatten, List.mem_range]
    have hn := hP.hn
    constructor
    · rintro ⟨L, hL, hk⟩
      obtain ⟨l, _, rfl⟩ := List.mem_map.mp hL
      exact (mem_osI.mp hk).2
    · intro hk
      exact ⟨osI g all.length n1 (lab g k), List.mem_map.mpr ⟨_, (h2 _).mpr (lab_mem hD (by omega)), rfl⟩, mem_osI.mpr ⟨⟨by omega, rfl⟩, hk⟩⟩
theorem ts_flat (hb : Bd all) (hP : Pos n1 all.length (A all) (B all)) (hD : Done n1 all.length (A all) (B all) g) : ((srtL all g (labs all g)).map (tsI g all.length n1)).flatten = (List.range (all.length - n1)).map (n1 + ·) := by
  obtain ⟨h1, h2⟩ := srtL_prec hb hP hD
  refine rise_eq (List.pairwise_flatten.mpr ⟨fun L hL => ?_, ?_⟩) ?_ fun k => ?_
  · obtain ⟨l, _, rfl⟩ := List.mem_map.mp hL
    exact List.Pairwise.filter _ (ixs_lt _ _ _)
  · rw [List.pairwise_map]
    refine h1.imp fun {l l'} hp x hx y hy => ?_
    obtain ⟨x1, x2⟩ := mem_tsI.mp hx
    obtain ⟨y1, y2⟩ := mem_tsI.mp hy
    have := hp x (mem_ixs.mpr x1) y (mem_ixs.mpr y1)
    unfold prec at this
    omega
  · rw [List.pairwise_map]
    exact List.pairwise_lt_range.imp fun h => by omega
  · have hn := hP.hn
    rw [List.mem_flatten]
    simp only [List.mem_map, List.mem_range]
    constructor
    · rintro ⟨L, ⟨l, _, rfl⟩, hk⟩
      have := mem_tsI.mp hk
      exact ⟨k - n1, by omega, by omega⟩
    · rintro ⟨j, hj, rfl⟩
      exact ⟨tsI g all.length n1 (lab g (n1 + j)), ⟨_, (h2 _).mpr (lab_mem hD (by omega)), rfl⟩, mem_tsI.mpr ⟨⟨by omega, rfl⟩, by omega⟩⟩
end
theorem pt_left {ones twos : List Pt} : (List.range ones.length).map (pt (ones ++ twos)) = ones := by
  apply List.ext_getElem
  · simp
  · intro i h1 h2
    simp only [List.getElem_map, List.getElem_range, pt, List.getD_eq_getElem?_getD]
    rw [List.getElem?_append_left h2, List.getElem?_eq_getElem h2]
    rfl
theorem pt_right {ones twos : List Pt} : ((List.range ((ones ++ twos).length - ones.length)).map (ones.length + ·)).map (pt (ones ++ twos)) = twos := by
  apply List.ext_getElem
  · simp
  · intro i h1 h2
    simp only [List.getElem_map, List.getElem_range, pt, List.getD_eq_getElem?_getD]
    rw [List.getElem?_append_right (by omega), Nat.add_sub_cancel_left, List.getElem?_eq_getElem h2]
    rfl
theorem mg_struct (ones twos : List Pt) (g : List Nat) (hb : Bd (ones ++ twos)) (hP : Pos ones.length (ones ++ twos).length (A (ones ++ twos)) (B (ones ++ twos))) (hD : Done ones.length (ones ++ twos).length (A (ones ++ twos)) (B (ones ++ twos)) g) :
    ∃ Gs : List (List Pt × List Pt), srtG (rowsG (ones ++ twos) g) = Gs.map (fun p => p.1 ++ p.2) ∧ (Gs.map Prod.fst).flatten = ones ∧ (Gs.map Prod.snd).flatten = twos ∧ Gs.Pairwise Sep ∧ ∀ p ∈ Gs, p.1 ++ p.2 ≠ [] := by
  obtain ⟨h1, h2⟩ := srtL_prec hb hP hD
  have hcls : ∀ l, cls (ones ++ twos) g l = (osI g (ones ++ twos).length ones.length l).map (pt (ones ++ twos)) ++ (tsI g (ones ++ twos).length ones.length l).map (pt (ones ++ twos)) := fun l => by
    rw [← List.map_append, cls, osI, tsI, ← rise_split _ _ (ixs_lt _ _ _)]
  refine ⟨(srtL (ones ++ twos) g (labs (ones ++ twos) g)).map fun l => ((osI g (ones ++ twos).length ones.length l).map (pt (ones ++ twos)), (tsI g (ones ++ twos).length ones.length l).map (pt (ones ++ twos))), ?_, ?_, ?_, ?_, ?_⟩
  · rw [rowsG, ← srtL_map, List.map_map]
    exact List.map_congr_left fun l _ => hcls l
  · have := congrArg (List.map (pt (ones ++ twos))) (os_flat hb hP hD)
    rw [List.map_flatten, List.map_map, pt_left] at this
    rw [List.map_map]
    exact this
  · have := congrArg (List.map (pt (ones ++ twos))) (ts_flat hb hP hD)
    rw [List.map_flatten, List.map_map, pt_right] at this
    rw [List.map_map]
    exact this
  · rw [List.pairwise_map]
    refine h1.imp fun {l l'} hp => ⟨fun p hp1 q hq1 => ?_, fun q hq1 p hp1 => ?_⟩
    · obtain ⟨k, hk, rfl⟩ := List.mem_map.mp hp1
      obtain ⟨k', hk', rfl⟩ := List.mem_map.mp hq1
      obtain ⟨x1, x2⟩ := mem_osI.mp hk
      obtain ⟨y1, y2⟩ := mem_tsI.mp hk'
      exact (prec_le hP x1.1 y1.1 (hp k (mem_ixs.mpr x1) k' (mem_ixs.mpr y1))).2.2 (by omega)
    · obtain ⟨k, hk, rfl⟩ := List.mem_map.mp hq1
      obtain ⟨k', hk', rfl⟩ := List.mem_map.mp hp1
      obtain ⟨x1, x2⟩ := mem_tsI.mp hk
      obtain ⟨y1, y2⟩ := mem_osI.mp hk'
      exact (prec_le hP x1.1 y1.1 (hp k (mem_ixs.mpr x1) k' (mem_ixs.mpr y1))).2.2 (by omega)
  · intro p hp
    obtain ⟨l, hl, rfl⟩ := List.mem_map.mp hp
    show _ ++ _ ≠ []
    rw [← hcls l]
    exact cls_ne.mpr (mem_labs.mp ((h2 l).mp hl)).2
end Go.Proofs.Ytfllpoonfhiipaa.MgS

set_option linter.unusedVariables false
set_option linter.unusedSimpArgs false
namespace Go.Proofs.Ytfllpoonfhiipaa.P
open Go Go.RowKit Go.Proofs.Ytfllpoonfhiipaa Go.Proofs.YtfllpoonfhiipaaW.PrintWords Go.Proofs.YtfllpoonfhiipaaW.PrintLast Go.Proofs.YtfllpoonfhiipaaW.PrintMore
def rope_part_66.f (l0 : List (List (S93))) : Option (List (S93)) := if l0.length ≤ 1000 ∧ l0.flatten.length ≤ 1000000000 then some l0.flatten else none
set_option maxHeartbeats 8000000 in
set_option maxRecDepth 100000 in
theorem rope_part_66.grow (n : Nat) (hn : n ≤ 1000000000) (w : World) : Calls Try.prog 75 #[.slice none 0 0, .int .i64 n] w fun e w' =>
    ∃ v, e = .returned v ∧ Kd.R k93 93 w' w.heap.size (fun _ => True) v [] ∧ Below w.heap.size w w' := by
  have hu := Try.underlying91
  have h1 : ¬ ((n : Int) < 0) := by omega
  have h2 : wrap64 ((0 : Int) - (0 : Int)) = 0 := by unfold wrap64; omega
  have h3 : wrap64 (n : Int) = (n : Int) := by unfold wrap64; omega
  by_cases h0 : n = 0
  · subst h0
    go_enter Try.func75, Try.ntmps75
    go_wp2
    go_ret
    exact ⟨_, rfl, Kd.R_nil _ _ _ _ _, Below.refl _ _⟩
  · obtain ⟨i0, hi, hzz⟩ := Option.map_eq_some_iff.1 (show (Try.prog.info? 93).map (fun i => (i.zero, i.size, i.bytes)) = some (some (.agg #[.int .i64 0, .int .i64 0, .bool false, .int .i64 0, .int .i64 0, .string ⟨#[]⟩]), 6, 56) by kernel_rfl)
    simp only [Prod.mk.injEq] at hzz
    obtain ⟨hz0, hz1, hz2⟩ := hzz
    have h4 : (n : Int) > 0 := by omega
    have hrz : ∀ ty, (Builtin.append_ #[91, 3] ty #[.slice none 0 0, .int .i64 (n : Int)]).run Try.prog w =
        .ok (.slice (some ⟨w.heap.size, 0, none⟩) n (grownCap w n 0 93)) (w.drew.alloc (.cells (#[] ++ Builtin.zeroCells (Value.cells (.agg #[.int .i64 0, .int .i64 0, .bool false, .int .i64 0, .int .i64 0, .string ⟨#[]⟩])) n ++ Builtin.zeroCells (Value.cells (.agg #[.int .i64 0, .int .i64 0, .bool false, .int .i64 0, .int .i64 0, .string ⟨#[]⟩])) (grownCap w n 0 93 - n)) 93)) := fun ty => by
      have h := Lib.run_append_grow_zeros (P := Try.prog) w 91 3 ty 93 i0 (.agg #[.int .i64 0, .int .i64 0, .bool false, .int .i64 0, .int .i64 0, .string ⟨#[]⟩]) .i64 .i64 hu Try.underlying3 hi hz0 none 0 0 [] (run_firstCells_none w.drew i0.size 0 0 0) n (by omega) (by omega) (by omega) (by omega) (by rw [hz2]; omega) (growslice_fits (by omega) (by rw [hz2]; omega))
      simpa using h
    have hG1 : n ≤ grownCap w n 0 93 := grownCap_ge w _ _ _
    have hG2 := grownCap_le_maxLen w n 0 93 (by unfold maxLen; omega)
    generalize grownCap w n 0 93 = G at hrz hG1 hG2
    have hG3 : G ≤ 9223372036854775807 := by unfold maxLen at hG2; omega
    have hcut := fun W : World => cut_to (P := Try.prog) 91 93 .i64 hu hi (some ⟨w.heap.size, 0, none⟩) n G 0 (by omega) (by omega) hG1 W
    have hR : Kd.R k93 93 (w.alloc (.cells (Builtin.zeroCells #[.int .i64 0, .int .i64 0, .bool false, .int .i64 0, .int .i64 0, .string ⟨#[]⟩] n ++ Builtin.zeroCells #[.int .i64 0, .int .i64 0, .bool false, .int .i64 0, .int .i64 0, .string ⟨#[]⟩] (G - n)) 93)).drew w.heap.size (fun _ => True) (.slice (some ⟨w.heap.size, 0, none⟩) 0 G) [] := by
      refine Kd.R_drew ⟨fun _ _ => trivial, [], ?_, Reps.none _ _⟩
      exact World.ownsRow_made (size := 6) w _ G (Nat.le_refl _) hG2 (by rw [Array.size_append, size_zeroCells, size_zeroCells]; show n * 6 + (G - n) * 6 = G * 6; omega)
    have HR := Aside0.mk hR
    have HB := Aside0.mk (show Below w.heap.size w (w.alloc (.cells (Builtin.zeroCells #[.int .i64 0, .int .i64 0, .bool false, .int .i64 0, .int .i64 0, .string ⟨#[]⟩] n ++ Builtin.zeroCells #[.int .i64 0, .int .i64 0, .bool false, .int .i64 0, .int .i64 0, .string ⟨#[]⟩] (G - n)) 93)).drew from below_drew (below_alloc (Below.refl _ _) _))
    clear hR hz0 hz1 hz2 hi hG2
    go_enter Try.func75, Try.ntmps75
    go_wp2_with (at_builtin; refine Lib.wpList_append_run _ rfl _ _ _ _ rfl _ _ rfl rfl _ _ (hrz _) ?_)
    all_goals (go_ret; exact ⟨_, rfl, HR.out, HB.out⟩)
def rope_part_66.tot (l : List (List (S93))) : Nat := l.flatten.length
theorem rope_part_66.tot_take (l : List (List (S93))) (i : Nat) (h : i < l.length) : rope_part_66.tot (l.take (i + 1)) = rope_part_66.tot (l.take i) + (l[i]).length := by
  unfold rope_part_66.tot
  rw [List.take_succ_eq_append_getElem h, List.flatten_append, List.length_append]
  simp
theorem rope_part_66.tot_le (l : List (List (S93))) (i : Nat) : rope_part_66.tot (l.take i) ≤ l.flatten.length := by
  have : l.flatten.length = rope_part_66.tot (l.take i) + (l.drop i).flatten.length := by
    unfold rope_part_66.tot
    conv => lhs; rw [← List.take_append_drop i l]
    rw [List.flatten_append, List.length_append]
  omega
theorem rope_part_66.row {w : World} {A0 : Option Addr} {l0 : List (List (S93))} (h : Kd.C (Kd.slice 93 k93) w A0 l0.length l0) (i : Nat) (hi : i < l0.length) :
    ∃ ad A c, A0 = some ad ∧ w.cell? (ad.add i) = some (.slice A (l0[i]).length c) ∧ (l0[i]).length ≤ c ∧ Kd.C k93 w A (l0[i]).length l0[i] := by
  obtain ⟨ad, e, hj⟩ := h.2.2 (by omega)
  obtain ⟨cs, _, hk, hcell⟩ := hj i l0[i] (List.getElem?_eq_getElem hi)
  obtain ⟨A, c, rfl, hlc, hC⟩ := hk
  refine ⟨ad, A, c, e, ?_, hlc, hC⟩
  have := hcell 0 _ rfl
  simpa [Kd.slice] using this
set_option maxHeartbeats 8000000 in
set_option maxRecDepth 100000 in
theorem rope_part_66.calls (A0 : Option Addr) (c0 : Nat) (l0 : List (List (S93))) (r : List (S93)) (w : World) (hr0 : Kd.C (Kd.slice 93 k93) w A0 l0.length l0) (hc0 : l0.length ≤ c0) (h : rope_part_66.f l0 = some r) :
    Calls Try.prog 66 #[.slice A0 l0.length c0] w fun e w' => ∃ v0_ : Value, e = .returned v0_ ∧ Kd.R k93 93 w' w.heap.size (fun _ => True) v0_ r ∧ Below w.heap.size w w' := by
  have hl : (l0.length ≤ 1000 ∧ l0.flatten.length ≤ 1000000000) ∧ l0.flatten = r := by
    unfold rope_part_66.f at h
    by_cases q : l0.length ≤ 1000 ∧ l0.flatten.length ≤ 1000000000
    · rw [if_pos q] at h; exact ⟨q, Option.some.inj h⟩
    · rw [if_neg q] at h; cases h
  clear h
  obtain ⟨⟨hl1, hl2⟩, rfl⟩ := hl
  have HL1 := Aside0.mk hl1
  have HL2 := Aside0.mk hl2
  have HC := Aside0.mk hr0
  have hu := Try.underlying91
  have hu2 := Try.underlying94
  clear hr0 hl1 hl2
  go_enter Try.func66, Try.ntmps66
  go_wp2_with fail
  go_loopg [3, 11] l0.length (fun kq v3 v11 w' => ∃ (i : Nat), v11 = .int .i64 (i : Int) ∧ v3 = .int .i64 (rope_part_66.tot (l0.take i) : Int) ∧ Aside0 (i + kq = l0.length) ∧ w' = w)
  case atStart => exact ⟨0, rfl, rfl, ⟨by omega⟩, rfl⟩
  case round =>
    obtain ⟨i, rfl, rfl, HK, hw⟩ := hrel
    replace hw := hw.symm
    subst hw
    have hmax : l0.length ≤ 1000 := HL1.out
    by_cases hlt : i < l0.length
    · obtain ⟨ad, A, c, e, hx, hlc, hC⟩ := rope_part_66.row HC.out i hlt
      have hd : decide ((i : Int) < (l0.length : Int)) = true := decide_eq_true (by omega)
      subst e
      have ht := rope_part_66.tot_take l0 i hlt
      have ht2 := rope_part_66.tot_le l0 (i + 1)
      have hs : wrap64 ((rope_part_66.tot (l0.take i) : Int) + ((l0[i]).length : Int)) = (rope_part_66.tot (l0.take (i + 1)) : Int) := by
        have := HL2.out
        rw [ht]; unfold wrap64; omega
      have hneg : decide ((rope_part_66.tot (l0.take (i + 1)) : Int) < 0) = false := decide_eq_false (by omega)
      clear ht ht2 hC hlc
      have HK' := HK
      cases gk with
      | zero => exact absurd hlt (by have := HK.out; omega)
      | succ kq' =>
      go_wp2_with fail
      go_roundg kq'
      case measure => omega
      case rel => exact ⟨i + 1, by go_num, by rw [hs], ⟨by have := HK.out; omega⟩, rfl⟩
    · have hd : decide ((i : Int) < (l0.length : Int)) = false := decide_eq_false (by omega)
      have hd2 : decide (i < l0.length) = false := decide_eq_false hlt
      have hi : l0.take i = l0 := List.take_of_length_le (by omega)
      have HB0 := Aside0.mk (Below.refl w.heap.size w)
      rw [hi]
      clear hi hlt HK
      go_wp2_with (go_at_call 75; refine (rope_part_66.grow (rope_part_66.tot l0) HL2.out _).mono ?_; rintro e w1 ⟨v1, rfl, hr1, hb1⟩; have HR1 := Aside0.mk hr1; have HB1 := Aside0.mk hb1; clear hr1 hb1)
      go_loopg [6, 27] l0.length (fun kq v6 v27 w' => ∃ (i : Nat), v27 = .int .i64 (i : Int) ∧ Aside0 (i + kq = l0.length) ∧ Aside0 (Kd.R k93 93 w' w.heap.size (fun _ => True) v6 (l0.take i).flatten) ∧ Aside0 (Below w.heap.size w w'))
      case atStart => exact ⟨0, rfl, ⟨by omega⟩, HR1, HB1⟩
      case round =>
        clear HR1 HB1
        obtain ⟨i, rfl, HK, HR, HB⟩ := hrel
        have hmax : l0.length ≤ 1000 := HL1.out
        by_cases hlt : i < l0.length
        · obtain ⟨ad, A, c, e, hx, hlc, hC⟩ := rope_part_66.row HC.out i hlt
          have hd : decide ((i : Int) < (l0.length : Int)) = true := decide_eq_true (by omega)
          subst e
          replace hx := (HB.out.cell (World.block_lt_of_cell? _ _ hx)).trans hx
          have HC2 := Aside0.mk (Kd.C_below hC HB.out)
          have ht := rope_part_66.tot_take l0 i hlt
          have ht2 := rope_part_66.tot_le l0 (i + 1)
          have HLN := Aside0.mk (show ((l0.take i).flatten.length + (l0[i]).length) * 56 ≤ 140737488355328 by have := HL2.out; unfold rope_part_66.tot at ht ht2; omega)
          have HF := Aside0.mk (show (l0.take (i + 1)).flatten = (l0.take i).flatten ++ l0[i] by rw [List.take_succ_eq_append_getElem hlt, List.flatten_append]; simp)
          have hinfo := Aside0.mk (show (Try.prog.info? 93).map (fun i => (i.zero, i.size, i.bytes)) = some (some (.agg #[.int .i64 0, .int .i64 0, .bool false, .int .i64 0, .int .i64 0, .string ⟨#[]⟩]), 6, 56) by kernel_rfl)
          clear ht ht2 hC hlc
          generalize (l0.take i).flatten = acc at *
          generalize l0[i] = row at *
          cases gk with
          | zero => exact absurd hlt (by have := HK.out; omega)
          | succ kq' =>
          go_wp2_with (at_builtin; refine Kd.R_append_rows k93 (w0 := w) w.heap.size rfl (.tmp 31) (.tmp 32) 91 93 (.agg #[.int .i64 0, .int .i64 0, .bool false, .int .i64 0, .int .i64 0, .string ⟨#[]⟩]) 56 rfl hu hinfo.out rfl (show 0 < 6 by decide) (by omega) _ acc row A row.length c (fun _ => True) (fun _ => False) rfl rfl HR.out HC2.out (fun x cs h => h) (fun _ hk => hk.elim) (fun _ _ => trivial) HB.out HB.out.size HLN.out ?_; intro v2 w2 hr2 hb2 hg2 hat2; have HR2 := Aside0.mk hr2; have HB2 := Aside0.mk hb2; clear hr2 hb2 hg2 hat2)
          go_roundg kq'
          case measure => omega
          case rel => exact ⟨i + 1, by go_num, ⟨by have := HK.out; omega⟩, ⟨by rw [HF.out]; exact HR2.out⟩, HB2⟩
        · have hd : decide ((i : Int) < (l0.length : Int)) = false := decide_eq_false (by omega)
          have hd2 : decide (i < l0.length) = false := decide_eq_false hlt
          have hi : l0.take i = l0 := List.take_of_length_le (by omega)
          rw [hi] at HR
          go_wp2_with fail
          go_ret
          exact ⟨_, rfl, HR.out, HB.out⟩
end Go.Proofs.Ytfllpoonfhiipaa.P

set_option linter.unusedVariables false
set_option linter.unusedSimpArgs false
namespace Go.Proofs.Ytfllpoonfhiipaa.SortW
open Go Go.RowKit Go.Proofs.Ytfllpoonfhiipaa Go.Proofs.Ytfllpoonfhiipaa.P Go.Proofs.YtfllpoonfhiipaaW.PrintWords Go.Proofs.YtfllpoonfhiipaaW.PrintLast Go.Proofs.YtfllpoonfhiipaaW.PrintMore
open Go.Proofs.Ytfllpoonfhiipaa.SortP
abbrev tF68 : Value := .func (.func 68) #[] #[]
set_option maxHeartbeats 8000000 in
set_option maxRecDepth 100000 in
theorem ins_nil (A : Option Addr) (c : Nat) (w : World) : Calls Try.prog 82 #[.slice A 0 c, .int .i64 0, .int .i64 0, tF68] w fun e w' => e = .returned (.tuple #[]) ∧ w' = w := by
  go_enter Try.func82, Try.ntmps82
  go_wp2_with fail
  go_loopg [8] 0 (fun kq v8 w' => v8 = .int .i64 1 ∧ w' = w)
  case atStart => exact ⟨rfl, rfl⟩
  case round =>
    obtain ⟨rfl, rfl⟩ := hrel
    go_wp2_with fail
    go_end0
    exact ⟨rfl, rfl⟩
set_option maxHeartbeats 8000000 in
set_option maxRecDepth 100000 in
theorem stab_nil (A : Option Addr) (c : Nat) (w : World) : Calls Try.prog 76 #[.slice A 0 c, .int .i64 0, tF68] w fun e w' => e = .returned (.tuple #[]) ∧ w' = w := by
  have HI := Aside0.mk (ins_nil A c)
  go_enter Try.func76, Try.ntmps76
  go_wp2_with fail
  go_loopg [7, 8] 0 (fun kq v7 v8 w' => v7 = .int .i64 0 ∧ v8 = .int .i64 20 ∧ w' = w)
  case atStart => exact ⟨rfl, rfl, rfl⟩
  case round =>
    obtain ⟨rfl, rfl, rfl⟩ := hrel
    go_wp2_with (go_at_call 82; refine (HI.out _).mono ?_; rintro e w5 ⟨rfl, rfl⟩)
    go_loopg [6] 0 (fun kq v6 w' => v6 = .int .i64 20 ∧ w' = w5)
    case atStart => exact ⟨rfl, rfl⟩
    case round =>
      obtain ⟨rfl, rfl⟩ := hrel
      go_wp2_with fail
      go_end0
      exact ⟨rfl, rfl⟩
set_option maxHeartbeats 8000000 in
set_option maxRecDepth 100000 in
theorem sort_nil (A : Option Addr) (c : Nat) (w : World) : Calls Try.prog 67 #[.slice A 0 c, tF68] w fun e w' => e = .returned (.tuple #[]) ∧ w' = w := by
  have HI := Aside0.mk (stab_nil A c)
  go_enter Try.func67, Try.ntmps67
  go_wp2_with (go_at_call 76; refine (HI.out _).mono ?_; rintro e w5 ⟨rfl, rfl⟩)
  go_end0
  exact ⟨rfl, rfl⟩
/-- Two rows of parts, laid as a row. -/
theorem rows_two {W : World} {A1 A2 : Option Addr} {c1 c2 : Nat} {ones twos : List Pt} (h1 : ones.length ≤ c1) (h2 : twos.length ≤ c2) (r1 : Kd.C k93 W A1 ones.length ones) (r2 : Kd.C k93 W A2 twos.length twos) :
    Kd.C (Kd.slice 93 k93) (W.alloc (.cells #[.slice A1 ones.length c1, .slice A2 twos.length c2] 91)) (some ⟨W.heap.size, 0, none⟩) 2 [ones, twos] := by
  have hb : Below W.heap.size W (W.alloc (.cells #[.slice A1 ones.length c1, .slice A2 twos.length c2] 91)) := below_alloc (Below.refl _ _) _
  have hc := blk_new W (.cells #[.slice A1 ones.length c1, .slice A2 twos.length c2] 91)
  refine ⟨rfl, by decide, fun _ => ⟨_, rfl, fun j p hj => ?_⟩⟩
  match j, hj with
  | 0, hj =>
    injection hj with hj
    subst hj
    refine ⟨[.slice A1 ones.length c1], rfl, ⟨A1, c1, rfl, h1, Kd.C_below r1 hb⟩, fun i u hu => ?_⟩
    match i, hu with
    | 0, hu =>
      injection hu with hu
      subst hu
      exact (Lib.cell_of_heap hc 0).trans rfl
  | 1, hj =>
    injection hj with hj
    subst hj
    refine ⟨[.slice A2 twos.length c2], rfl, ⟨A2, c2, rfl, h2, Kd.C_below r2 hb⟩, fun i u hu => ?_⟩
    match i, hu with
    | 0, hu =>
      injection hu with hu
      subst hu
      exact (Lib.cell_of_heap hc 1).trans rfl
theorem zip_pairwise {α : Type} : ∀ (l : List α) (n : Nat), (l.zipIdx n).Pairwise fun x y => x.2 < y.2
  | [], _ => by simp
  | x :: r, n => by
    rw [List.zipIdx_cons, List.pairwise_cons]
    refine ⟨fun y hy => ?_, zip_pairwise r (n + 1)⟩
    obtain ⟨a, b⟩ := y
    have := List.mem_zipIdx hy
    show n < b
    omega
theorem nodup_zip {α : Type} (l : List α) : (l.zipIdx.map Prod.snd).Nodup := by
  rw [List.Nodup, List.pairwise_map]
  exact (zip_pairwise l 0).imp (fun h => Nat.ne_of_lt h)
theorem findIdx_tag {α : Type} {S : List (α × Nat)} (hn : (S.map Prod.snd).Nodup) {j : Nat} {q : α × Nat} (hj : S[j]? = some q) : S.findIdx (fun p => p.2 == q.2) = j := by
  obtain ⟨hlt, he⟩ := List.getElem?_eq_some_iff.1 hj
  rw [List.findIdx_eq hlt]
  refine ⟨by rw [he]; simp, fun i hi => ?_⟩
  rw [List.Nodup, List.pairwise_map, List.pairwise_iff_getElem] at hn
  have := hn i j (by omega) hlt hi
  rw [he] at this
  exact beq_eq_false_iff_ne.mpr this
theorem sort_rows (w : World) (base : Nat) (v : Value) (xs : List (List Pt)) (hS : Kd.S (Kd.slice 93 k93) 91 w base (fun _ => True) v xs) (hx : ∀ x ∈ xs, 0 < x.length ∧ x.length ≤ 1000000 ∧ Bd x) (hl : xs.length ≤ 100000) :
    Calls Try.prog 67 #[v, tF68] w fun e w' => e = .returned (.tuple #[]) ∧ Kd.S (Kd.slice 93 k93) 91 w' base (fun _ => True) v (srtG xs) ∧ w.grownBy w' v.ownBlock := by
  by_cases h0 : xs.length = 0
  · have hxs : xs = [] := List.eq_nil_of_length_eq_zero h0
    subst hxs
    obtain ⟨A, c, rfl⟩ := Kd.S_slice hS
    refine (sort_nil A c w).mono ?_
    rintro e w' ⟨rfl, rfl⟩
    exact ⟨rfl, hS, ⟨rfl, rfl, rfl, Nat.le_refl _, fun _ _ _ => rfl⟩⟩
  · obtain ⟨f, hk0, inner, ⟨hil, ho2⟩, hr⟩ := hS
    rw [List.length_zipIdx] at hil ho2
    rcases ho2 with ⟨_, hn⟩ | ⟨g, cap, cur, rfl, hg, hc, hncap, hmax, hsz, htake⟩
    · exact absurd hn h0
    · have hR : Row (⟨fun (p : List Pt × Nat) A n c => n = p.1.length ∧ 0 < p.1.length ∧ p.1.length ≤ 1000000 ∧ Bd p.1 ∧ Kd.R k93 93 w base (fun k => (True ∧ some k ≠ some g) ∧ f k = p.2) (.slice A n c) p.1, cur.size⟩ : Ent (List Pt × Nat)) w g xs.zipIdx := by
        refine ⟨cur, hc, rfl, fun i p hp => ?_⟩
        have hM := hr.2 i p hp
        rw [List.getElem?_zipIdx, Nat.zero_add] at hp
        obtain ⟨x, hxi, rfl⟩ := Option.map_eq_some_iff.1 hp
        obtain ⟨u, hu, hRu⟩ := hM
        obtain ⟨A', c', rfl, hl', hC'⟩ := Kd.R_reads hRu
        have hmem := hx x (List.mem_of_getElem? hxi)
        refine ⟨A', x.length, c', ?_, rfl, hmem.1, hmem.2.1, hmem.2.2, hRu⟩
        have h5 := congrArg (fun z => z[0]?) hu
        rw [← htake] at h5
        have hlt := (List.getElem?_eq_some_iff.1 hxi).1
        have h6 : i * 1 + 0 < xs.length * 1 := by omega
        simp only [Kd.tag, Kd.slice] at h5
        rw [List.getElem?_take_of_lt (by omega), List.getElem?_drop, List.getElem?_take_of_lt h6] at h5
        simpa using h5
      have toG : ∀ {x : List Pt} {m : Nat} {A : Option Addr} {n c : Nat}, (n = x.length ∧ 0 < x.length ∧ x.length ≤ 1000000 ∧ Bd x ∧ Kd.R k93 93 w base (fun k => (True ∧ some k ≠ some g) ∧ f k = m) (.slice A n c) x) → Grp w g x A n c := by
        rintro x m A n c ⟨rfl, h1, h2, h3, h4⟩
        obtain ⟨_, h6, h7⟩ := Kd.R_reads' h4
        exact ⟨rfl, h6, h1, h2, h3, h7, fun ad e => by
          subst e
          intro he
          exact (h4.1 ad.block rfl).1.2 (by rw [he])⟩
      have hlz : xs.length = xs.zipIdx.length := by rw [List.length_zipIdx]
      refine (sortStable_ok (E := ⟨fun (p : List Pt × Nat) A n c => n = p.1.length ∧ 0 < p.1.length ∧ p.1.length ≤ 1000000 ∧ Bd p.1 ∧ Kd.R k93 93 w base (fun k => (True ∧ some k ≠ some g) ∧ f k = p.2) (.slice A n c) p.1, cur.size⟩) (fun p => key p.1) Prod.snd g cap xs.length xs.zipIdx w w (fun w1 x y A n c A' n' c' hg1 h1 h2 => cmp_ok g cur.size w w1 x.1 y.1 A n c A' n' c' hg1 (toG h1) (toG h2)) ⟨rfl, rfl, rfl, Nat.le_refl _, fun _ _ _ => rfl⟩ hlz hl (zip_pairwise xs 0) hR).mono ?_
      rintro e w' ⟨rfl, ⟨S, hp, hs, hR'⟩, hgr⟩
      have hSl : S.length = xs.length := by rw [hp.length_eq, List.length_zipIdx]
      have hnd : (S.map Prod.snd).Nodup := (hp.map Prod.snd).nodup_iff.mpr (nodup_zip xs)
      obtain ⟨arr, ha, hz, hE⟩ := hR'
      replace hz : arr.size = cur.size := hz
      refine ⟨rfl, ?_, hgr⟩
      rw [← srt_is hp hs]
      have hml : (S.map Prod.fst).zipIdx.length = xs.length := by rw [List.length_zipIdx, List.length_map, hSl]
      have hsz1 : cur.size = cap * 1 := hsz
      refine ⟨fun k => S.findIdx (fun p => p.2 == f k), fun _ _ => trivial, arr.toList.take (xs.length * 1), ⟨?_, .inr ⟨g, cap, arr, by rw [hml], hg, ha, by rw [hml]; exact hncap, hmax, hz.trans hsz, by rw [hml]; rfl⟩⟩, ?_, fun j p hj => ?_⟩
      · rw [hml]
        show (arr.toList.take (xs.length * 1)).length = xs.length * 1
        have hal : arr.toList.length = arr.size := Array.length_toList
        rw [List.length_take]
        omega
      · rw [hml]
        show (arr.toList.take (xs.length * 1)).length = xs.length * 1
        have hal : arr.toList.length = arr.size := Array.length_toList
        rw [List.length_take]
        omega
      · rw [List.getElem?_zipIdx, Nat.zero_add, List.getElem?_map] at hj
        obtain ⟨y, hy, rfl⟩ := Option.map_eq_some_iff.1 hj
        obtain ⟨q, hq, rfl⟩ := Option.map_eq_some_iff.1 hy
        obtain ⟨A', n', c', h1, _, _, _, _, h7⟩ := hE j q hq
        have hjl : j < S.length := (List.getElem?_eq_some_iff.1 hq).1
        refine ⟨.slice A' n' c', ?_, ?_⟩
        · show ((arr.toList.take (xs.length * 1)).drop (j * 1)).take 1 = [.slice A' n' c']
          apply List.ext_getElem?
          intro i
          match i with
          | 0 =>
            rw [List.getElem?_take_of_lt (by omega), List.getElem?_drop, List.getElem?_take_of_lt (by omega), Array.getElem?_toList]
            simpa using h1
          | i + 1 =>
            rw [List.getElem?_take, if_neg (by omega)]
            rfl
        · refine Kd.R_mono (Kd.R_grown h7 hgr (fun k hk => hk.1.2)) (fun k hk => ⟨⟨trivial, hk.1.2⟩, ?_⟩)
          show S.findIdx (fun p => p.2 == f k) = j
          rw [hk.2]
          exact findIdx_tag hnd hq
end Go.Proofs.Ytfllpoonfhiipaa.SortW

