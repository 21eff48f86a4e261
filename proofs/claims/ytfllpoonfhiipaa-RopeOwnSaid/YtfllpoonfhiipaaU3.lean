/- What the claim's row needs of the seat's texts, part 3: put together by a program of this session (declarations that no text of the claim names are left out). -/
import Derived.Laws.MakeOwn
import Derived.Laws.Rows
import Derived.WalkSpells
import Derived.Test.YtfllpoonfhiipaaU2
namespace Go.Proofs.Ytfllpoonfhiipaa.P
open Go.RowKit Go.Proofs.YtfllpoonfhiipaaW.PrintWords Go.Proofs.YtfllpoonfhiipaaW.PrintLast Go.Proofs.YtfllpoonfhiipaaW.PrintMore
attribute [local go_sem] max2_int min2_int max_two min_two max_three min_three max_four min_four
set_option linter.unusedVariables false
set_option linter.unusedSimpArgs false
theorem info3 : (Try.prog.info? 3).map (fun i => (i.zero, i.size, i.bytes)) = some (some (.int .i64 0), 1, 8) := by kernel_rfl
theorem info91 : (Try.prog.info? 91).map (fun i => (i.zero, i.size, i.bytes)) = some (some (.slice none 0 0), 1, 24) := by kernel_rfl
theorem info93 : (Try.prog.info? 93).map (fun i => (i.zero, i.size, i.bytes)) = some (some (.agg #[(.int .i64 0), (.int .i64 0), (.bool false), (.int .i64 0), (.int .i64 0), (.string ⟨#[]⟩)]), 6, 56) := by kernel_rfl
/-! ### rope_groups: function 55 -/
mutual
def rope_groupsV.l0 : Nat → List (S93) → List (S93) → List (S93) → List Int → Int → Int → Option ((List (List (S93))))
  | 0, _, _, _, _, _, _ => none
  | k + 1, x0, x1, x5, x6, x29, x30 => if x30 < x29 then (if 0 ≤ x30 then (if x30 < (x6.length : Int) then (rope_groupsV.l0 k x0 x1 x5 (x6.set (x30 : Int).toNat x30) x29 (wrap64 (x30 + 1))) else (none)) else (none)) else (rope_groupsV.l1 k x0 x1 x5 x6 true)
def rope_groupsV.l1 : Nat → List (S93) → List (S93) → List (S93) → List Int → Bool → Option ((List (List (S93))))
  | 0, _, _, _, _, _ => none
  | k + 1, x0, x1, x5, x6, x8 => if x8 = true then (rope_groupsV.l2 k x0 x1 x5 x6 false x0 (x0.length : Int) 0) else (rope_groupsV.l5 k x5 x6 ([] : List (List (S93))) (x5.length : Int) 0)
def rope_groupsV.l2 : Nat → List (S93) → List (S93) → List (S93) → List Int → Bool → List (S93) → Int → Int → Option ((List (List (S93))))
  | 0, _, _, _, _, _, _, _, _ => none
  | k + 1, x0, x1, x5, x6, x8, x39, x40, x41 => if x41 < x40 then (if 0 ≤ x41 then (if x41 < (x39.length : Int) then (rope_groupsV.l3 k x0 x1 x5 x6 x8 x41 x39 x40 x41 x1 (x1.length : Int) 0 ((rd_T93 x39 x41).f0) ((rd_T93 x39 x41).f1) ((rd_T93 x39 x41).f2) ((rd_T93 x39 x41).f3.f0) ((rd_T93 x39 x41).f3.f1) ((rd_T93 x39 x41).f3.f2)) else (none)) else (none)) else (rope_groupsV.l1 k x0 x1 x5 x6 x8)
def rope_groupsV.l3 : Nat → List (S93) → List (S93) → List (S93) → List Int → Bool → Int → List (S93) → Int → Int → List (S93) → Int → Int → Int → Int → Bool → Int → Int → ByteArray → Option ((List (List (S93))))
  | 0, _, _, _, _, _, _, _, _, _, _, _, _, _, _, _, _, _, _ => none
  | k + 1, x0, x1, x5, x6, x8, x9, x39, x40, x41, x46, x47, x48, x107000, x107001, x107002, x107003, x107004, x107005 => if x48 < x47 then (if 0 ≤ x48 then (if x48 < (x46.length : Int) then (if 0 ≤ x9 then (if x9 < (x6.length : Int) then (if 0 ≤ (wrap64 ((x0.length : Int) + x48)) then (if (wrap64 ((x0.length : Int) + x48)) < (x6.length : Int) then (if x107001 < ((rd_T93 x46 x48).f0) then (rope_groupsV.j4 k x0 x1 x5 x6 x8 x9 (rd x6 x9) (rd x6 (wrap64 ((x0.length : Int) + x48))) x39 x40 x41 x46 x47 x48 true x107000 x107001 x107002 x107003 x107004 x107005) else (if ((rd_T93 x46 x48).f1) < x107000 then (rope_groupsV.j4 k x0 x1 x5 x6 x8 x9 (rd x6 x9) (rd x6 (wrap64 ((x0.length : Int) + x48))) x39 x40 x41 x46 x47 x48 true x107000 x107001 x107002 x107003 x107004 x107005) else (rope_groupsV.j4 k x0 x1 x5 x6 x8 x9 (rd x6 x9) (rd x6 (wrap64 ((x0.length : Int) + x48))) x39 x40 x41 x46 x47 x48 ((rd x6 x9) == (rd x6 (wrap64 ((x0.length : Int) + x48)))) x107000 x107001 x107002 x107003 x107004 x107005))) else (none)) else (none)) else (none)) else (none)) else (none)) else (none)) else (rope_groupsV.l2 k x0 x1 x5 x6 x8 x39 x40 (wrap64 (x41 + 1)))
def rope_groupsV.j4 : Nat → List (S93) → List (S93) → List (S93) → List Int → Bool → Int → Int → Int → List (S93) → Int → Int → List (S93) → Int → Int → Bool → Int → Int → Bool → Int → Int → ByteArray → Option ((List (List (S93))))
  | 0, _, _, _, _, _, _, _, _, _, _, _, _, _, _, _, _, _, _, _, _, _ => none
  | k + 1, x0, x1, x5, x6, x8, x9, x13, x14, x39, x40, x41, x46, x47, x48, x80, x107000, x107001, x107002, x107003, x107004, x107005 => if x80 = true then (rope_groupsV.l3 k x0 x1 x5 x6 x8 x9 x39 x40 x41 x46 x47 (wrap64 (x48 + 1)) x107000 x107001 x107002 x107003 x107004 x107005) else (rope_groupsV.l4 k x0 x1 x5 x6 x9 x13 x14 x39 x40 x41 x46 x47 x48 (x6.length : Int) 0 x107000 x107001 x107002 x107003 x107004 x107005)
def rope_groupsV.l4 : Nat → List (S93) → List (S93) → List (S93) → List Int → Int → Int → Int → List (S93) → Int → Int → List (S93) → Int → Int → Int → Int → Int → Int → Bool → Int → Int → ByteArray → Option ((List (List (S93))))
  | 0, _, _, _, _, _, _, _, _, _, _, _, _, _, _, _, _, _, _, _, _, _ => none
  | k + 1, x0, x1, x5, x6, x9, x13, x14, x39, x40, x41, x46, x47, x48, x82, x83, x107000, x107001, x107002, x107003, x107004, x107005 => if x83 < x82 then (if 0 ≤ x83 then (if x83 < (x6.length : Int) then (if (rd x6 x83) = (mx x13 x14) then (rope_groupsV.l4 k x0 x1 x5 (x6.set (x83 : Int).toNat (mn x13 x14)) x9 x13 x14 x39 x40 x41 x46 x47 x48 x82 (wrap64 (x83 + 1)) x107000 x107001 x107002 x107003 x107004 x107005) else (rope_groupsV.l4 k x0 x1 x5 x6 x9 x13 x14 x39 x40 x41 x46 x47 x48 x82 (wrap64 (x83 + 1)) x107000 x107001 x107002 x107003 x107004 x107005)) else (none)) else (none)) else (rope_groupsV.l3 k x0 x1 x5 x6 true x9 x39 x40 x41 x46 x47 (wrap64 (x48 + 1)) x107000 x107001 x107002 x107003 x107004 x107005)
def rope_groupsV.l5 : Nat → List (S93) → List Int → List (List (S93)) → Int → Int → Option ((List (List (S93))))
  | 0, _, _, _, _, _ => none
  | k + 1, x5, x6, x16, x104, x105 => if x105 < x104 then (rope_groupsV.l6 k x5 x6 x16 x105 ([] : List (S93)) x104 x105 x5 (x5.length : Int) 0) else (some x16)
def rope_groupsV.l6 : Nat → List (S93) → List Int → List (List (S93)) → Int → List (S93) → Int → Int → List (S93) → Int → Int → Option ((List (List (S93))))
  | 0, _, _, _, _, _, _, _, _, _, _ => none
  | k + 1, x5, x6, x16, x17, x18, x104, x105, x108, x109, x110 => if x110 < x109 then (if 0 ≤ x110 then (if x110 < (x108.length : Int) then (if x110 < (x6.length : Int) then (if (rd x6 x110) = x17 then (if x18.length < 2513169434916 then (rope_groupsV.l6 k x5 x6 x16 x17 (x18 ++ [(⟨(rd_T93 x108 x110).f0, (rd_T93 x108 x110).f1, (rd_T93 x108 x110).f2, (⟨(rd_T93 x108 x110).f3.f0, (rd_T93 x108 x110).f3.f1, (rd_T93 x108 x110).f3.f2⟩ : S47)⟩ : S93)]) x104 x105 x108 x109 (wrap64 (x110 + 1))) else (none)) else (rope_groupsV.l6 k x5 x6 x16 x17 x18 x104 x105 x108 x109 (wrap64 (x110 + 1)))) else (none)) else (none)) else (none)) else (if (x18.length : Int) = 0 then (rope_groupsV.l5 k x5 x6 x16 x104 (wrap64 (x105 + 1))) else (if x16.length < 5864062014805 then (rope_groupsV.l5 k x5 x6 (x16 ++ [x18]) x104 (wrap64 (x105 + 1))) else (none)))
end
def rope_groupsV.f (k : Nat) (l0 : List (S93)) (l1 : List (S93)) (l2 : List (S93)) : Option ((List (List (S93)))) := if 0 ≤ (l2.length : Int) then (if ((l2.length : Int) : Int).toNat ≤ 35184372088832 then ((some (List.replicate ((l2.length : Int) : Int).toNat 0 : List Int)).bind fun y101 => (rope_groupsV.l0 k l0 l1 l2 y101 (y101.length : Int) 0)) else (none)) else (none)
set_option maxHeartbeats 16000000 in
set_option maxRecDepth 100000 in
theorem rope_groupsV.calls (k : Nat) (A0 : Option Addr) (c0 : Nat) (l0 : List (S93)) (A1 : Option Addr) (c1 : Nat) (l1 : List (S93)) (l2 : List (S93)) (r : List (List (S93))) (w0 : World) (hl2 : l2 = l0 ++ l1) (hr0 : Kd.C k93 w0 A0 l0.length l0) (hc0 : l0.length ≤ c0) (hr1 : Kd.C k93 w0 A1 l1.length l1) (hc1 : l1.length ≤ c1) (hlen : l0.length + l1.length ≤ 1000) (hrl : r.length ≤ 100000) (hrx : ∀ x ∈ r, 0 < x.length ∧ x.length ≤ 1000000 ∧ SortW.Bd x) (h : rope_groupsV.f k l0 l1 l2 = some r) :
    Calls Try.prog 55 #[.slice A0 l0.length c0, .slice A1 l1.length c1] w0 fun e w' => ∃ v0_ : Value, e = .returned v0_ ∧ Kd.S (Kd.slice 93 k93) 91 w' w0.heap.size (fun _ => True) v0_ (SortW.srtG r) ∧ Below w0.heap.size w0 w' := by
  have hu93 := Try.underlying93
  have HRA := Aside0.mk hr0
  have HRB := Aside0.mk hr1
  have HRL := Aside0.mk (And.intro hrl hrx)
  have HCT := Aside0.mk (rope_part_66.calls (some ⟨w0.heap.size, 0, none⟩) 2 [l0, l1] l2 _ (SortW.rows_two hc0 hc1 hr0 hr1) (Nat.le_refl _) (by
    unfold rope_part_66.f
    rw [if_pos (by simp; omega), hl2]
    simp))
  have HC0 := Aside0.mk hc0
  have HC1 := Aside0.mk hc1
  clear hr0 hr1 hc0 hc1 hlen hl2 hrl hrx
  have q91 : ∀ (w : World) (a : Option Addr) (n c : Nat), (binOp .neq 91 (.slice a n c) (.slice none 0 0)).run Try.prog w = .ok (.bool (!a.isNone)) w := fun w a n c => run_neq_slice_nil_any w _ _ _ _ _ _ _ Try.underlying91
  go_enter Try.func55, Try.ntmps55
  have H : (if 0 ≤ (l2.length : Int) then (if ((l2.length : Int) : Int).toNat ≤ 35184372088832 then ((some (List.replicate ((l2.length : Int) : Int).toNat 0 : List Int)).bind fun y101 => (rope_groupsV.l0 k l0 l1 l2 y101 (y101.length : Int) 0)) else (none)) else (none)) = some r := h
  clear h
  by_cases c4 : 0 ≤ (l2.length : Int)
  · rw [if_pos c4] at H
    have c4b0 := eq_true c4
    have c4b1 : decide (0 ≤ (l2.length : Int)) = true := decide_eq_true c4
    clear c4
    by_cases c5 : ((l2.length : Int) : Int).toNat ≤ 35184372088832
    · rw [if_pos c5] at H
      have c5b0 := eq_true c5
      have c5b1 : decide (((l2.length : Int) : Int).toNat ≤ 35184372088832) = true := decide_eq_true c5
      clear c5
      obtain ⟨y101, hy101⟩ : ∃ y_ : List Int, y_ = (List.replicate ((l2.length : Int) : Int).toNat 0) := ⟨_, rfl⟩
      replace H : (rope_groupsV.l0 k l0 l1 l2 y101 (y101.length : Int) 0) = some r := by first | (rw [hy101]; with_reducible exact H) | (have H2_ := (Option.bind_some _ _).symm.trans H; rw [hy101]; with_reducible exact H2_) | (have H2_ := (Option.bind_some _ _).symm.trans H; with_reducible exact H2_) | with_reducible exact H | (rw [hy101]; exact H) | exact H
      have Ny101 := Aside0.mk hy101
      clear hy101
      have H' := Aside0.mk H
      clear H
      go_wp2_with (first | (go_at_call 66; refine HCT.out.mono ?_; rintro e w ⟨v2, rfl, hr2, hb2⟩; obtain ⟨A2, c2, e2, hc2, hr2'⟩ := Kd.R_reads hr2; subst e2; have HR2 := Aside0.mk hr2'; have HC2 := Aside0.mk hc2; have HB0 := Aside0.mk ((below_alloc (Below.refl w0.heap.size w0) _).trans (hb2.mono (by simp))); have HR0 := Aside0.mk (Kd.C_below HRA.out HB0.out); have HR1 := Aside0.mk (Kd.C_below HRB.out HB0.out); have HB := Aside0.mk (Below.refl w.heap.size w); clear hr2 hr2' hc2 hb2 HCT HRA HRB) | ((with_reducible refine gate_dst (N := 27) rfl ?_); refine Kd.R_make (Kd.int .i64) _ 3 rfl (N := 27) rfl 98 _ _ rfl (l2.length : Int) rfl rfl Try.underlying98 (.int .i64 0) 8 info3 rfl (by decide) (by omega) 0 (ok := fun _ => True) (okp := fun _ => True) rfl (fun _ hk => hk) trivial (of_decide_eq_true (by first | (with_reducible assumption) | assumption)) (Nat.le_trans (Nat.mul_le_mul_right _ (of_decide_eq_true (by first | (with_reducible assumption) | assumption) : (l2.length : Int).toNat ≤ 35184372088832)) (by omega)) (Below.refl _ _) (Nat.le_refl _) ?_; intro v102 w6 ho7 hb hg_ hnew_; clear hg_ hnew_; (first | rw [← Ny101.out] at ho7 | (simp only [Int.reduceToNat] at ho7; rw [← Ny101.out] at ho7)); have n0_ := Aside0.mk (Kd.R_lower ho7 (below_size (by repeat (first | (with_reducible first | exact HB.out | apply below_alloc | apply pw_below_drewN | apply below_drew1) | exact HB.out)))); have n1_ := Aside0.mk (below_step (by repeat (first | (with_reducible first | exact HB.out | apply below_alloc | apply pw_below_drewN | apply below_drew1) | exact HB.out)) hb); clear HB; have HO103 := n0_; have HB := n1_; clear n0_ n1_; clear hb ho7; obtain ⟨Ao8, co8, eo8⟩ := Kd.R_slice HO103.out; subst eo8))
      repeat (go_quiet (first | ((with_reducible refine gate_dst (N := 27) rfl ?_); refine Kd.R_make (Kd.int .i64) _ 3 rfl (N := 27) rfl 98 _ _ rfl (l2.length : Int) rfl rfl Try.underlying98 (.int .i64 0) 8 info3 rfl (by decide) (by omega) 0 (ok := fun _ => True) (okp := fun _ => True) rfl (fun _ hk => hk) trivial (of_decide_eq_true (by first | (with_reducible assumption) | assumption)) (Nat.le_trans (Nat.mul_le_mul_right _ (of_decide_eq_true (by first | (with_reducible assumption) | assumption) : (l2.length : Int).toNat ≤ 35184372088832)) (by omega)) (Below.refl _ _) (Nat.le_refl _) ?_; intro v102 w6 ho7 hb hg_ hnew_; clear hg_ hnew_; (first | rw [← Ny101.out] at ho7 | (simp only [Int.reduceToNat] at ho7; rw [← Ny101.out] at ho7)); have n0_ := Aside0.mk (Kd.R_lower ho7 (below_size (by repeat (first | (with_reducible first | exact HB.out | apply below_alloc | apply pw_below_drewN | apply below_drew1) | exact HB.out)))); have n1_ := Aside0.mk (below_step (by repeat (first | (with_reducible first | exact HB.out | apply below_alloc | apply pw_below_drewN | apply below_drew1) | exact HB.out)) hb); clear HB; have HO103 := n0_; have HB := n1_; clear n0_ n1_; clear hb ho7; obtain ⟨Ao8, co8, eo8⟩ := Kd.R_slice HO103.out; subst eo8)); try go_wp2_with (first | ((with_reducible refine gate_dst (N := 27) rfl ?_); refine Kd.R_make (Kd.int .i64) _ 3 rfl (N := 27) rfl 98 _ _ rfl (l2.length : Int) rfl rfl Try.underlying98 (.int .i64 0) 8 info3 rfl (by decide) (by omega) 0 (ok := fun _ => True) (okp := fun _ => True) rfl (fun _ hk => hk) trivial (of_decide_eq_true (by first | (with_reducible assumption) | assumption)) (Nat.le_trans (Nat.mul_le_mul_right _ (of_decide_eq_true (by first | (with_reducible assumption) | assumption) : (l2.length : Int).toNat ≤ 35184372088832)) (by omega)) (Below.refl _ _) (Nat.le_refl _) ?_; intro v102 w6 ho7 hb hg_ hnew_; clear hg_ hnew_; (first | rw [← Ny101.out] at ho7 | (simp only [Int.reduceToNat] at ho7; rw [← Ny101.out] at ho7)); have n0_ := Aside0.mk (Kd.R_lower ho7 (below_size (by repeat (first | (with_reducible first | exact HB.out | apply below_alloc | apply pw_below_drewN | apply below_drew1) | exact HB.out)))); have n1_ := Aside0.mk (below_step (by repeat (first | (with_reducible first | exact HB.out | apply below_alloc | apply pw_below_drewN | apply below_drew1) | exact HB.out)) hb); clear HB; have HO103 := n0_; have HB := n1_; clear n0_ n1_; clear hb ho7; obtain ⟨Ao8, co8, eo8⟩ := Kd.R_slice HO103.out; subst eo8)))
      go_loopg [30] k (fun kq v30 w' => ∃ (x6_1 : List Int) (x30_1 : Int), v30 = .int .i64 x30_1 ∧ Aside0 (rope_groupsV.l0 kq l0 l1 l2 x6_1 (y101.length : Int) x30_1 = some r) ∧ Aside0 (kq ≤ k) ∧ Aside0 (Kd.R (Kd.int .i64) 3 w' w.heap.size (fun _ => True) (.slice Ao8 y101.length co8) x6_1) ∧ Aside0 (Below w.heap.size w w'))
      case atStart => exact ⟨(y101), (0), (by first | rfl | (simp; done) | (simp [*]; done)), H', ⟨Nat.le_refl _⟩, ⟨by (with_reducible repeat (first | apply Kd.R_alloc | apply Kd.R_drewN | apply Kd.R_drew)); exact HO103.out⟩, ⟨by repeat (first | (with_reducible first | exact HB.out | apply below_alloc | apply pw_below_drewN | apply below_drew1) | exact HB.out)⟩⟩
      case round =>
        clear H'
        try clear c1
        try clear c2
        try clear p2
        try clear c4
        try clear c4b0
        try clear c4b1
        try clear c5
        try clear c5b0
        try clear c5b1
        obtain ⟨x6_1, x30_1, rfl, HA, HK1, HO_6, HB⟩ := hrel
        have hl6_1 := (Kd.R_reads' HO_6.out).1
        rw [hl6_1] at HO_6
        (try simp only [hl6_1])
        cases gk with
        | zero => exact absurd HA.out (by simp [rope_groupsV.l0])
        | succ k1 =>
          have H := HA.out
          clear HA
          simp only [rope_groupsV.l0] at H
          by_cases c9 : x30_1 < (y101.length : Int)
          · rw [if_pos c9] at H
            have c9b0 : decide (x30_1 < (y101.length : Int)) = true := decide_eq_true c9
            clear c9
            by_cases c10 : 0 ≤ x30_1
            · rw [if_pos c10] at H
              have c10b0 : decide (0 ≤ x30_1) = true := decide_eq_true c10
              clear c10
              by_cases c11 : x30_1 < (x6_1.length : Int)
              · rw [if_pos c11] at H
                have c11b0 : decide (x30_1 < (x6_1.length : Int)) = true := decide_eq_true c11
                clear c11
                obtain ⟨y104, hy104⟩ : ∃ y_ : List Int, y_ = (x6_1.set (x30_1 : Int).toNat x30_1) := ⟨_, rfl⟩
                replace H : (rope_groupsV.l0 k1 l0 l1 l2 y104 (y101.length : Int) (wrap64 (x30_1 + 1))) = some r := by first | (rw [hy104]; with_reducible exact H) | (have H2_ := (Option.bind_some _ _).symm.trans H; rw [hy104]; with_reducible exact H2_) | (have H2_ := (Option.bind_some _ _).symm.trans H; with_reducible exact H2_) | with_reducible exact H | (rw [hy104]; exact H) | exact H
                have Ny104 := Aside0.mk hy104
                clear hy104
                have H' := Aside0.mk H
                clear H
                have p12 : 0 ≤ (x30_1 : Int) := of_decide_eq_true (by first | (with_reducible assumption) | assumption)
                have q12 : (x30_1 : Int) < ((x6_1.length : Int) : Int) := of_decide_eq_true (by first | (with_reducible assumption) | assumption)
                obtain ⟨go12, co12, eo12, gb12, gl12, cl12, HG12⟩ := Kd.R_form HO_6.out (by omega)
                (first | cases eo12 | (injection eo12 with ea_ en_ ec_; (first | subst ea_ | (injection ea_ with ea_; subst ea_)); subst ec_; clear en_))
                have GB12 := Aside0.mk gb12
                have GG12 := Aside0.mk HG12
                clear gb12 gl12 HG12
                obtain ⟨hx12_0, hf12_0⟩ := Kd.R_celln 0 HO_6.out (x30_1 : Int) p12 q12
                replace p12 := eq_true p12
                replace q12 := eq_true q12
                have HP13 := Kd.R_putg HO_6.out (x30_1 : Int) x30_1
                go_wp2_with (first | ((with_reducible refine gate_store (t := 3) (p := 36) rfl ?_); (try (rw [drewN_self wr]; generalize hq_ : World.drewN wr _ = wr; have n0_ := Aside0.mk (Kd.R_at hq_ HO_6.out); have n1_ := Aside0.mk (below_at hq_ HB.out); clear hq_ HO_6 HB; have HO_6 := n0_; have HB := n1_; clear n0_ n1_; (try (have HP13 := Kd.R_putg HO_6.out (x30_1 : Int) x30_1)))); refine store_event (t := 3) (p := 36) (v := ?vo_w14) (w1 := (wr.setCell ⟨go12, (x30_1 : Int).toNat, none⟩ (.int .i64 x30_1))) ?hg ?ho ?hn ?hr ?_; (case ho => rfl); (case hg => rfl); (case hn => rfl); (case hr => first | (go_simp; done) | (go_simp; rfl)); intro w14 hw; have hg : wr.grownBy w14 (some go12) := (by rw [hw]; exact HP13.2); have hp_ : Kd.R (Kd.int .i64) 3 w14 w.heap.size (fun _ => True) (.slice (some ⟨go12, 0, none⟩) x6_1.length co8) y104 := (by rw [hw, Ny104.out]; exact HP13.1); clear HP13; have n0_ := Aside0.mk (hp_); have n1_ := Aside0.mk ((by rw [hw]; exact below_set (HB.out) GB12.out : Below w.heap.size w w14)); clear HO_6; clear HB; have HO_6 := n0_; have HB := n1_; clear n0_ n1_; clear hg hw hp_))
                repeat (go_quiet (first | ((with_reducible refine gate_store (t := 3) (p := 36) rfl ?_); (try (rw [drewN_self wr]; generalize hq_ : World.drewN wr _ = wr; have n0_ := Aside0.mk (Kd.R_at hq_ HO_6.out); have n1_ := Aside0.mk (below_at hq_ HB.out); clear hq_ HO_6 HB; have HO_6 := n0_; have HB := n1_; clear n0_ n1_; (try (have HP13 := Kd.R_putg HO_6.out (x30_1 : Int) x30_1)))); refine store_event (t := 3) (p := 36) (v := ?vo_w14) (w1 := (wr.setCell ⟨go12, (x30_1 : Int).toNat, none⟩ (.int .i64 x30_1))) ?hg ?ho ?hn ?hr ?_; (case ho => rfl); (case hg => rfl); (case hn => rfl); (case hr => first | (go_simp; done) | (go_simp; rfl)); intro w14 hw; have hg : wr.grownBy w14 (some go12) := (by rw [hw]; exact HP13.2); have hp_ : Kd.R (Kd.int .i64) 3 w14 w.heap.size (fun _ => True) (.slice (some ⟨go12, 0, none⟩) x6_1.length co8) y104 := (by rw [hw, Ny104.out]; exact HP13.1); clear HP13; have n0_ := Aside0.mk (hp_); have n1_ := Aside0.mk ((by rw [hw]; exact below_set (HB.out) GB12.out : Below w.heap.size w w14)); clear HO_6; clear HB; have HO_6 := n0_; have HB := n1_; clear n0_ n1_; clear hg hw hp_)); try go_wp2_with (first | ((with_reducible refine gate_store (t := 3) (p := 36) rfl ?_); (try (rw [drewN_self wr]; generalize hq_ : World.drewN wr _ = wr; have n0_ := Aside0.mk (Kd.R_at hq_ HO_6.out); have n1_ := Aside0.mk (below_at hq_ HB.out); clear hq_ HO_6 HB; have HO_6 := n0_; have HB := n1_; clear n0_ n1_; (try (have HP13 := Kd.R_putg HO_6.out (x30_1 : Int) x30_1)))); refine store_event (t := 3) (p := 36) (v := ?vo_w14) (w1 := (wr.setCell ⟨go12, (x30_1 : Int).toNat, none⟩ (.int .i64 x30_1))) ?hg ?ho ?hn ?hr ?_; (case ho => rfl); (case hg => rfl); (case hn => rfl); (case hr => first | (go_simp; done) | (go_simp; rfl)); intro w14 hw; have hg : wr.grownBy w14 (some go12) := (by rw [hw]; exact HP13.2); have hp_ : Kd.R (Kd.int .i64) 3 w14 w.heap.size (fun _ => True) (.slice (some ⟨go12, 0, none⟩) x6_1.length co8) y104 := (by rw [hw, Ny104.out]; exact HP13.1); clear HP13; have n0_ := Aside0.mk (hp_); have n1_ := Aside0.mk ((by rw [hw]; exact below_set (HB.out) GB12.out : Below w.heap.size w w14)); clear HO_6; clear HB; have HO_6 := n0_; have HB := n1_; clear n0_ n1_; clear hg hw hp_)))
                (try simp only [← hl6_1])
                go_roundg k1
                case measure => have := HK1.out; omega
                case rel => exact ⟨(y104), (wrap64 (x30_1 + 1)), (by first | rfl | (simp; done) | (simp [*]; done)), H', ⟨by have := HK1.out; omega⟩, ⟨by (try simp only [hl6_1]); (with_reducible repeat (first | apply Kd.R_alloc | apply Kd.R_drewN | apply Kd.R_drew)); exact HO_6.out⟩, ⟨by repeat (first | (with_reducible first | exact HB.out | apply below_alloc | apply pw_below_drewN | apply below_drew1) | exact HB.out)⟩⟩
              · rw [if_neg c11] at H
                exact absurd H (by simp)
            · rw [if_neg c10] at H
              exact absurd H (by simp)
          · rw [if_neg c9] at H
            have c9b0 : decide (x30_1 < (y101.length : Int)) = false := decide_eq_false c9
            rw [hl6_1] at c9b0
            clear c9
            have H' := Aside0.mk H
            clear H
            go_wp2
            repeat (go_quiet (fail); try go_wp2)
            go_loopg [8] k1 (fun kq v8 w' => ∃ (x6_2 : List Int) (x8_2 : Bool), v8 = .bool x8_2 ∧ Aside0 (rope_groupsV.l1 kq l0 l1 l2 x6_2 x8_2 = some r) ∧ Aside0 (kq ≤ k1) ∧ Aside0 (Kd.R (Kd.int .i64) 3 w' w.heap.size (fun _ => True) (.slice Ao8 x6_1.length co8) x6_2) ∧ Aside0 (Below w.heap.size w w'))
            case atStart => exact ⟨(x6_1), (true), (by first | rfl | (simp; done) | (simp [*]; done)), H', ⟨Nat.le_refl _⟩, ⟨by (try simp only [hl6_1]); (with_reducible repeat (first | apply Kd.R_alloc | apply Kd.R_drewN | apply Kd.R_drew)); exact HO_6.out⟩, ⟨by repeat (first | (with_reducible first | exact HB.out | apply below_alloc | apply pw_below_drewN | apply below_drew1) | exact HB.out)⟩⟩
            case round =>
              clear H'
              try clear c1
              try clear p1
              try clear q1
              try clear hx1
              try clear c2
              try clear p2
              try clear c4
              try clear c4b0
              try clear c4b1
              try clear c5
              try clear c5b0
              try clear c5b1
              try clear p6
              try clear c9
              try clear c9b0
              try clear c10
              try clear c10b0
              try clear c11
              try clear c11b0
              try clear p12
              try clear q12
              try clear hx12
              try clear hf12
              try clear hx12_0
              try clear p12
              try clear p2
              try clear q12
              obtain ⟨x6_2, x8_2, rfl, HA, HK2, HO_6, HB⟩ := hrel
              have hl6_2 := (Kd.R_reads' HO_6.out).1
              rw [hl6_2] at HO_6
              (try simp only [hl6_2])
              cases gk with
              | zero => exact absurd HA.out (by simp [rope_groupsV.l1])
              | succ k2 =>
                have H := HA.out
                clear HA
                simp only [rope_groupsV.l1] at H
                by_cases c15 : x8_2 = true
                · subst c15
                  have H1 : (rope_groupsV.l2 k2 l0 l1 l2 x6_2 false l0 (l0.length : Int) 0) = some r := by rw [if_pos rfl] at H; exact H
                  clear H
                  have H := H1
                  clear H1
                  have H' := Aside0.mk H
                  clear H
                  go_wp2
                  repeat (go_quiet (fail); try go_wp2)
                  go_loopg [8, 41] k2 (fun kq v8 v41 w' => ∃ (x6_3 : List Int) (x8_3 : Bool) (x41_3 : Int), v8 = .bool x8_3 ∧ v41 = .int .i64 x41_3 ∧ Aside0 (rope_groupsV.l2 kq l0 l1 l2 x6_3 x8_3 l0 (l0.length : Int) x41_3 = some r) ∧ Aside0 (kq ≤ k2) ∧ Aside0 (Kd.R (Kd.int .i64) 3 w' w.heap.size (fun _ => True) (.slice Ao8 x6_2.length co8) x6_3) ∧ Aside0 (Below w.heap.size w w'))
                  case atStart => exact ⟨(x6_2), (false), (0), (by first | rfl | (simp; done) | (simp [*]; done)), (by first | rfl | (simp; done) | (simp [*]; done)), H', ⟨Nat.le_refl _⟩, ⟨by (try simp only [hl6_1]); (try simp only [hl6_2]); (with_reducible repeat (first | apply Kd.R_alloc | apply Kd.R_drewN | apply Kd.R_drew)); exact HO_6.out⟩, ⟨by repeat (first | (with_reducible first | exact HB.out | apply below_alloc | apply pw_below_drewN | apply below_drew1) | exact HB.out)⟩⟩
                  case round =>
                    clear H'
                    try clear c1
                    try clear p1
                    try clear q1
                    try clear hx1
                    try clear c2
                    try clear p2
                    try clear c4
                    try clear c4b0
                    try clear c4b1
                    try clear c5
                    try clear c5b0
                    try clear c5b1
                    try clear p6
                    try clear c9
                    try clear c9b0
                    try clear c10
                    try clear c10b0
                    try clear c11
                    try clear c11b0
                    try clear p12
                    try clear q12
                    try clear hx12
                    try clear hf12
                    try clear c15
                    try clear hx12_0
                    try clear p1
                    try clear p12
                    try clear p2
                    try clear p6
                    try clear q1
                    try clear q12
                    obtain ⟨x6_3, x8_3, x41_3, rfl, rfl, HA, HK3, HO_6, HB⟩ := hrel
                    have hl6_3 := (Kd.R_reads' HO_6.out).1
                    rw [hl6_3] at HO_6
                    (try simp only [hl6_3])
                    cases gk with
                    | zero => exact absurd HA.out (by simp [rope_groupsV.l2])
                    | succ k3 =>
                      have H := HA.out
                      clear HA
                      simp only [rope_groupsV.l2] at H
                      by_cases c16 : x41_3 < (l0.length : Int)
                      · rw [if_pos c16] at H
                        have c16b0 : decide (x41_3 < (l0.length : Int)) = true := decide_eq_true c16
                        clear c16
                        by_cases c17 : 0 ≤ x41_3
                        · rw [if_pos c17] at H
                          have c17b0 : decide (0 ≤ x41_3) = true := decide_eq_true c17
                          clear c17
                          by_cases c18 : x41_3 < (l0.length : Int)
                          · rw [if_pos c18] at H
                            have c18b0 : decide (x41_3 < (l0.length : Int)) = true := decide_eq_true c18
                            clear c18
                            have H' := Aside0.mk H
                            clear H
                            have p105 : 0 ≤ (x41_3 : Int) := of_decide_eq_true (by first | (with_reducible assumption) | assumption)
                            have q105 : x41_3 < (l0.length : Int) := of_decide_eq_true (by first | (with_reducible assumption) | assumption)
                            obtain ⟨ad105, e105, hx105_0, hx105_1, hx105_2, hx105_3, hx105_4, hx105_5⟩ := at_T93 HR0.out x41_3 p105 q105
                            cases e105
                            replace hx105_0 := (HB.out.cell (World.block_lt_of_cell? w _ hx105_0)).trans hx105_0
                            replace hx105_1 := (HB.out.cell (World.block_lt_of_cell? w _ hx105_1)).trans hx105_1
                            replace hx105_2 := (HB.out.cell (World.block_lt_of_cell? w _ hx105_2)).trans hx105_2
                            replace hx105_3 := (HB.out.cell (World.block_lt_of_cell? w _ hx105_3)).trans hx105_3
                            replace hx105_4 := (HB.out.cell (World.block_lt_of_cell? w _ hx105_4)).trans hx105_4
                            replace hx105_5 := (HB.out.cell (World.block_lt_of_cell? w _ hx105_5)).trans hx105_5
                            replace p105 := eq_true p105
                            replace q105 := eq_true q105
                            go_wp2_with (first | ((with_reducible refine gate_dst (N := 10) rfl ?_); refine box_event ?hg (N := 10) ?hd (cs := #[.int .i64 0, .int .i64 0, .bool false, .int .i64 0, .int .i64 0, .string (⟨#[]⟩ : ByteArray)]) (t := 93) ?hr ?_; (case hd => rfl); (case hg => rfl); (case hr => first | (go_simp; done) | (go_simp; rfl)); intro gb106 hg w19 hbox hb; have n0_ := Aside0.mk (Kd.R_below (by (with_reducible repeat (first | apply Kd.R_alloc | apply Kd.R_drewN | apply Kd.R_drew)); exact HO_6.out) hb); have n1_ := Aside0.mk (below_step (by repeat (first | (with_reducible first | exact HB.out | apply below_alloc | apply pw_below_drewN | apply below_drew1) | exact HB.out)) hb); have n2_ := Aside0.mk (hbox); have n3_ := Aside0.mk ((by rw [hg]; exact (below_size (by repeat (first | (with_reducible first | exact HB.out | apply below_alloc | apply pw_below_drewN | apply below_drew1) | exact HB.out))) : w.heap.size ≤ gb106)); have n4_ := Aside0.mk ((by rw [hg]; exact (below_size (by repeat (first | (with_reducible first | exact HB.out | apply below_alloc | apply pw_below_drewN | apply below_drew1) | exact HB.out))) : w.heap.size ≤ gb106)); clear HO_6; clear HB; have HO_6 := n0_; have HB := n1_; have BK106 := n2_; have GW106 := n3_; have GE106 := n4_; clear n0_ n1_ n2_ n3_ n4_; clear hb hbox hg; have hcz20_0 : w19.cell? ⟨gb106, 0, none⟩ = some (.int .i64 0) := (blk_cell BK106.out 0).trans rfl; have hcz20_1 : w19.cell? ⟨gb106, 1, none⟩ = some (.int .i64 0) := (blk_cell BK106.out 1).trans rfl; have hcz20_2 : w19.cell? ⟨gb106, 2, none⟩ = some (.bool false) := (blk_cell BK106.out 2).trans rfl; have hcz20_3 : w19.cell? ⟨gb106, 3, none⟩ = some (.int .i64 0) := (blk_cell BK106.out 3).trans rfl; have hcz20_4 : w19.cell? ⟨gb106, 4, none⟩ = some (.int .i64 0) := (blk_cell BK106.out 4).trans rfl; have hcz20_5 : w19.cell? ⟨gb106, 5, none⟩ = some (.string (⟨#[]⟩ : ByteArray)) := (blk_cell BK106.out 5).trans rfl; have hfz20_0 := blk_frozen BK106.out 0; have hfz20_1 := blk_frozen BK106.out 1; have hfz20_2 := blk_frozen BK106.out 2; have hfz20_3 := blk_frozen BK106.out 3; have hfz20_4 := blk_frozen BK106.out 4; have hfz20_5 := blk_frozen BK106.out 5))
                            repeat (go_quiet (first | ((with_reducible refine gate_dst (N := 10) rfl ?_); refine box_event ?hg (N := 10) ?hd (cs := #[.int .i64 0, .int .i64 0, .bool false, .int .i64 0, .int .i64 0, .string (⟨#[]⟩ : ByteArray)]) (t := 93) ?hr ?_; (case hd => rfl); (case hg => rfl); (case hr => first | (go_simp; done) | (go_simp; rfl)); intro gb106 hg w19 hbox hb; have n0_ := Aside0.mk (Kd.R_below (by (with_reducible repeat (first | apply Kd.R_alloc | apply Kd.R_drewN | apply Kd.R_drew)); exact HO_6.out) hb); have n1_ := Aside0.mk (below_step (by repeat (first | (with_reducible first | exact HB.out | apply below_alloc | apply pw_below_drewN | apply below_drew1) | exact HB.out)) hb); have n2_ := Aside0.mk (hbox); have n3_ := Aside0.mk ((by rw [hg]; exact (below_size (by repeat (first | (with_reducible first | exact HB.out | apply below_alloc | apply pw_below_drewN | apply below_drew1) | exact HB.out))) : w.heap.size ≤ gb106)); have n4_ := Aside0.mk ((by rw [hg]; exact (below_size (by repeat (first | (with_reducible first | exact HB.out | apply below_alloc | apply pw_below_drewN | apply below_drew1) | exact HB.out))) : w.heap.size ≤ gb106)); clear HO_6; clear HB; have HO_6 := n0_; have HB := n1_; have BK106 := n2_; have GW106 := n3_; have GE106 := n4_; clear n0_ n1_ n2_ n3_ n4_; clear hb hbox hg; have hcz20_0 : w19.cell? ⟨gb106, 0, none⟩ = some (.int .i64 0) := (blk_cell BK106.out 0).trans rfl; have hcz20_1 : w19.cell? ⟨gb106, 1, none⟩ = some (.int .i64 0) := (blk_cell BK106.out 1).trans rfl; have hcz20_2 : w19.cell? ⟨gb106, 2, none⟩ = some (.bool false) := (blk_cell BK106.out 2).trans rfl; have hcz20_3 : w19.cell? ⟨gb106, 3, none⟩ = some (.int .i64 0) := (blk_cell BK106.out 3).trans rfl; have hcz20_4 : w19.cell? ⟨gb106, 4, none⟩ = some (.int .i64 0) := (blk_cell BK106.out 4).trans rfl; have hcz20_5 : w19.cell? ⟨gb106, 5, none⟩ = some (.string (⟨#[]⟩ : ByteArray)) := (blk_cell BK106.out 5).trans rfl; have hfz20_0 := blk_frozen BK106.out 0; have hfz20_1 := blk_frozen BK106.out 1; have hfz20_2 := blk_frozen BK106.out 2; have hfz20_3 := blk_frozen BK106.out 3; have hfz20_4 := blk_frozen BK106.out 4; have hfz20_5 := blk_frozen BK106.out 5)); try go_wp2_with (first | ((with_reducible refine gate_dst (N := 10) rfl ?_); refine box_event ?hg (N := 10) ?hd (cs := #[.int .i64 0, .int .i64 0, .bool false, .int .i64 0, .int .i64 0, .string (⟨#[]⟩ : ByteArray)]) (t := 93) ?hr ?_; (case hd => rfl); (case hg => rfl); (case hr => first | (go_simp; done) | (go_simp; rfl)); intro gb106 hg w19 hbox hb; have n0_ := Aside0.mk (Kd.R_below (by (with_reducible repeat (first | apply Kd.R_alloc | apply Kd.R_drewN | apply Kd.R_drew)); exact HO_6.out) hb); have n1_ := Aside0.mk (below_step (by repeat (first | (with_reducible first | exact HB.out | apply below_alloc | apply pw_below_drewN | apply below_drew1) | exact HB.out)) hb); have n2_ := Aside0.mk (hbox); have n3_ := Aside0.mk ((by rw [hg]; exact (below_size (by repeat (first | (with_reducible first | exact HB.out | apply below_alloc | apply pw_below_drewN | apply below_drew1) | exact HB.out))) : w.heap.size ≤ gb106)); have n4_ := Aside0.mk ((by rw [hg]; exact (below_size (by repeat (first | (with_reducible first | exact HB.out | apply below_alloc | apply pw_below_drewN | apply below_drew1) | exact HB.out))) : w.heap.size ≤ gb106)); clear HO_6; clear HB; have HO_6 := n0_; have HB := n1_; have BK106 := n2_; have GW106 := n3_; have GE106 := n4_; clear n0_ n1_ n2_ n3_ n4_; clear hb hbox hg; have hcz20_0 : w19.cell? ⟨gb106, 0, none⟩ = some (.int .i64 0) := (blk_cell BK106.out 0).trans rfl; have hcz20_1 : w19.cell? ⟨gb106, 1, none⟩ = some (.int .i64 0) := (blk_cell BK106.out 1).trans rfl; have hcz20_2 : w19.cell? ⟨gb106, 2, none⟩ = some (.bool false) := (blk_cell BK106.out 2).trans rfl; have hcz20_3 : w19.cell? ⟨gb106, 3, none⟩ = some (.int .i64 0) := (blk_cell BK106.out 3).trans rfl; have hcz20_4 : w19.cell? ⟨gb106, 4, none⟩ = some (.int .i64 0) := (blk_cell BK106.out 4).trans rfl; have hcz20_5 : w19.cell? ⟨gb106, 5, none⟩ = some (.string (⟨#[]⟩ : ByteArray)) := (blk_cell BK106.out 5).trans rfl; have hfz20_0 := blk_frozen BK106.out 0; have hfz20_1 := blk_frozen BK106.out 1; have hfz20_2 := blk_frozen BK106.out 2; have hfz20_3 := blk_frozen BK106.out 3; have hfz20_4 := blk_frozen BK106.out 4; have hfz20_5 := blk_frozen BK106.out 5)))
                            go_loopg [8, 48] k3 (fun kq v8 v48 w' => ∃ (x6_4 : List Int) (x8_4 : Bool) (x48_4 : Int), v8 = .bool x8_4 ∧ v48 = .int .i64 x48_4 ∧ Aside0 (rope_groupsV.l3 kq l0 l1 l2 x6_4 x8_4 x41_3 l0 (l0.length : Int) x41_3 l1 (l1.length : Int) x48_4 ((rd_T93 l0 x41_3).f0) ((rd_T93 l0 x41_3).f1) ((rd_T93 l0 x41_3).f2) ((rd_T93 l0 x41_3).f3.f0) ((rd_T93 l0 x41_3).f3.f1) ((rd_T93 l0 x41_3).f3.f2) = some r) ∧ Aside0 (kq ≤ k3) ∧ Aside0 (Kd.R (Kd.int .i64) 3 w' w.heap.size (fun _ => True) (.slice Ao8 x6_3.length co8) x6_4) ∧ Aside0 (w'.heap[gb106]? = some (.cells #[.int .i64 ((rd_T93 l0 x41_3).f0), .int .i64 ((rd_T93 l0 x41_3).f1), .bool ((rd_T93 l0 x41_3).f2), .int .i64 ((rd_T93 l0 x41_3).f3.f0), .int .i64 ((rd_T93 l0 x41_3).f3.f1), .string ((rd_T93 l0 x41_3).f3.f2)] 93 (0, 0))) ∧ Aside0 (Below w.heap.size w w'))
                            case atStart => exact ⟨(x6_3), (x8_3), (0), (by first | rfl | (simp; done) | (simp [*]; done)), (by first | rfl | (simp; done) | (simp [*]; done)), H', ⟨Nat.le_refl _⟩, ⟨by (try simp only [hl6_1]); (try simp only [hl6_2]); (try simp only [hl6_3]); (with_reducible repeat (first | apply Kd.R_alloc | apply Kd.R_drewN | apply Kd.R_drew)); exact Kd.R_mono (Kd.R_far (p := ⟨gb106, 5, none⟩) (Kd.R_far (p := ⟨gb106, 4, none⟩) (Kd.R_far (p := ⟨gb106, 3, none⟩) (Kd.R_far (p := ⟨gb106, 2, none⟩) (Kd.R_far (p := ⟨gb106, 1, none⟩) (Kd.R_far (p := ⟨gb106, 0, none⟩) (Kd.R_types HO_6.out BK106.out (by decide)) (fun _ hk => hk.2) (.int .i64 ((rd_T93 l0 x41_3).f0))) (fun _ hk => hk.2) (.int .i64 ((rd_T93 l0 x41_3).f1))) (fun _ hk => hk.2) (.bool ((rd_T93 l0 x41_3).f2))) (fun _ hk => hk.2) (.int .i64 ((rd_T93 l0 x41_3).f3.f0))) (fun _ hk => hk.2) (.int .i64 ((rd_T93 l0 x41_3).f3.f1))) (fun _ hk => hk.2) (.string ((rd_T93 l0 x41_3).f3.f2))) (fun _ hk => trivial)⟩, ⟨by (try simp only [hl6_1]); (try simp only [hl6_2]); (try simp only [hl6_3]); (with_reducible repeat (first | refine blk_drewN ?_ _ | refine blk_drew ?_ | refine blk_alloc ?_ _)); refine blk_put (cs := #[.int .i64 ((rd_T93 l0 x41_3).f0), .int .i64 ((rd_T93 l0 x41_3).f1), .bool ((rd_T93 l0 x41_3).f2), .int .i64 ((rd_T93 l0 x41_3).f3.f0), .int .i64 ((rd_T93 l0 x41_3).f3.f1), .string (⟨#[]⟩ : ByteArray)]) ?_ 5 _ rfl; (with_reducible repeat (first | refine blk_drewN ?_ _ | refine blk_drew ?_ | refine blk_alloc ?_ _)); refine blk_put (cs := #[.int .i64 ((rd_T93 l0 x41_3).f0), .int .i64 ((rd_T93 l0 x41_3).f1), .bool ((rd_T93 l0 x41_3).f2), .int .i64 ((rd_T93 l0 x41_3).f3.f0), .int .i64 0, .string (⟨#[]⟩ : ByteArray)]) ?_ 4 _ rfl; (with_reducible repeat (first | refine blk_drewN ?_ _ | refine blk_drew ?_ | refine blk_alloc ?_ _)); refine blk_put (cs := #[.int .i64 ((rd_T93 l0 x41_3).f0), .int .i64 ((rd_T93 l0 x41_3).f1), .bool ((rd_T93 l0 x41_3).f2), .int .i64 0, .int .i64 0, .string (⟨#[]⟩ : ByteArray)]) ?_ 3 _ rfl; (with_reducible repeat (first | refine blk_drewN ?_ _ | refine blk_drew ?_ | refine blk_alloc ?_ _)); refine blk_put (cs := #[.int .i64 ((rd_T93 l0 x41_3).f0), .int .i64 ((rd_T93 l0 x41_3).f1), .bool false, .int .i64 0, .int .i64 0, .string (⟨#[]⟩ : ByteArray)]) ?_ 2 _ rfl; (with_reducible repeat (first | refine blk_drewN ?_ _ | refine blk_drew ?_ | refine blk_alloc ?_ _)); refine blk_put (cs := #[.int .i64 ((rd_T93 l0 x41_3).f0), .int .i64 0, .bool false, .int .i64 0, .int .i64 0, .string (⟨#[]⟩ : ByteArray)]) ?_ 1 _ rfl; (with_reducible repeat (first | refine blk_drewN ?_ _ | refine blk_drew ?_ | refine blk_alloc ?_ _)); refine blk_put (cs := #[.int .i64 0, .int .i64 0, .bool false, .int .i64 0, .int .i64 0, .string (⟨#[]⟩ : ByteArray)]) ?_ 0 _ rfl; (with_reducible repeat (first | refine blk_drewN ?_ _ | refine blk_drew ?_ | refine blk_alloc ?_ _)); exact BK106.out⟩, ⟨by repeat (first | (with_reducible first | exact HB.out | apply below_alloc | apply pw_below_drewN | apply below_drew1 | refine below_set ?_ GE106.out) | exact HB.out)⟩⟩
                            case round =>
                              clear H'
                              try clear c1
                              try clear p1
                              try clear q1
                              try clear hx1
                              try clear c2
                              try clear p2
                              try clear c4
                              try clear c4b0
                              try clear c4b1
                              try clear c5
                              try clear c5b0
                              try clear c5b1
                              try clear p6
                              try clear c9
                              try clear c9b0
                              try clear c10
                              try clear c10b0
                              try clear p10
                              try clear q10
                              try clear hx10
                              try clear c11
                              try clear c11b0
                              try clear p12
                              try clear q12
                              try clear hx12
                              try clear hf12
                              try clear c15
                              try clear c16
                              try clear c16b0
                              try clear c17
                              try clear c17b0
                              try clear c18
                              try clear c18b0
                              try clear hcz20_0
                              try clear hcz20_1
                              try clear hcz20_2
                              try clear hcz20_3
                              try clear hcz20_4
                              try clear hcz20_5
                              try clear hfz20_0
                              try clear hfz20_1
                              try clear hfz20_2
                              try clear hfz20_3
                              try clear hfz20_4
                              try clear hfz20_5
                              try clear hx105_0
                              try clear hx105_1
                              try clear hx105_2
                              try clear hx105_3
                              try clear hx105_4
                              try clear hx105_5
                              try clear hx12_0
                              try clear p1
                              try clear p105
                              try clear p12
                              try clear p2
                              try clear p6
                              try clear q1
                              try clear q105
                              try clear q12
                              obtain ⟨x6_4, x8_4, x48_4, rfl, rfl, HA, HK4, HO_6, BK106, HB⟩ := hrel
                              have hl6_4 := (Kd.R_reads' HO_6.out).1
                              rw [hl6_4] at HO_6
                              (try simp only [hl6_4])
                              (try simp only [hl6_4] at BK106)
                              cases gk with
                              | zero => exact absurd HA.out (by simp [rope_groupsV.l3])
                              | succ k4 =>
                                have H := HA.out
                                clear HA
                                simp only [rope_groupsV.l3] at H
                                by_cases c21 : x48_4 < (l1.length : Int)
                                · rw [if_pos c21] at H
                                  have c21b0 : decide (x48_4 < (l1.length : Int)) = true := decide_eq_true c21
                                  clear c21
                                  by_cases c22 : 0 ≤ x48_4
                                  · rw [if_pos c22] at H
                                    have c22b0 : decide (0 ≤ x48_4) = true := decide_eq_true c22
                                    clear c22
                                    by_cases c23 : x48_4 < (l1.length : Int)
                                    · rw [if_pos c23] at H
                                      have c23b0 : decide (x48_4 < (l1.length : Int)) = true := decide_eq_true c23
                                      clear c23
                                      by_cases c24 : 0 ≤ x41_3
                                      · rw [if_pos c24] at H
                                        have c24b0 : decide (0 ≤ x41_3) = true := decide_eq_true c24
                                        clear c24
                                        by_cases c25 : x41_3 < (x6_4.length : Int)
                                        · rw [if_pos c25] at H
                                          have c25b0 : decide (x41_3 < (x6_4.length : Int)) = true := decide_eq_true c25
                                          clear c25
                                          obtain ⟨ji26, hji26⟩ : ∃ j_ : Int, (wrap64 ((l0.length : Int) + x48_4)) = j_ := ⟨_, rfl⟩
                                          replace H : (if 0 ≤ (ji26) then (if (ji26) < (x6_4.length : Int) then (if ((rd_T93 l0 x41_3).f1) < ((rd_T93 l1 x48_4).f0) then (rope_groupsV.j4 k4 l0 l1 l2 x6_4 x8_4 x41_3 (rd x6_4 x41_3) (rd x6_4 (ji26)) l0 (l0.length : Int) x41_3 l1 (l1.length : Int) x48_4 true ((rd_T93 l0 x41_3).f0) ((rd_T93 l0 x41_3).f1) ((rd_T93 l0 x41_3).f2) ((rd_T93 l0 x41_3).f3.f0) ((rd_T93 l0 x41_3).f3.f1) ((rd_T93 l0 x41_3).f3.f2)) else (if ((rd_T93 l1 x48_4).f1) < ((rd_T93 l0 x41_3).f0) then (rope_groupsV.j4 k4 l0 l1 l2 x6_4 x8_4 x41_3 (rd x6_4 x41_3) (rd x6_4 (ji26)) l0 (l0.length : Int) x41_3 l1 (l1.length : Int) x48_4 true ((rd_T93 l0 x41_3).f0) ((rd_T93 l0 x41_3).f1) ((rd_T93 l0 x41_3).f2) ((rd_T93 l0 x41_3).f3.f0) ((rd_T93 l0 x41_3).f3.f1) ((rd_T93 l0 x41_3).f3.f2)) else (rope_groupsV.j4 k4 l0 l1 l2 x6_4 x8_4 x41_3 (rd x6_4 x41_3) (rd x6_4 (ji26)) l0 (l0.length : Int) x41_3 l1 (l1.length : Int) x48_4 ((rd x6_4 x41_3) == (rd x6_4 (ji26))) ((rd_T93 l0 x41_3).f0) ((rd_T93 l0 x41_3).f1) ((rd_T93 l0 x41_3).f2) ((rd_T93 l0 x41_3).f3.f0) ((rd_T93 l0 x41_3).f3.f1) ((rd_T93 l0 x41_3).f3.f2)))) else (none)) else (none)) = some r := by first | (rw [hji26] at H; exact H) | (simp only [hji26] at H ⊢; exact H)
                                          have hji26w : (IntKind.i64.wrap ((l0.length : Int) + x48_4)) = ji26 := (i64_w _).trans hji26
                                          by_cases c27 : 0 ≤ (ji26)
                                          · rw [if_pos c27] at H
                                            have c27b0 : decide (0 ≤ (ji26)) = true := decide_eq_true c27
                                            clear c27
                                            by_cases c28 : (ji26) < (x6_4.length : Int)
                                            · rw [if_pos c28] at H
                                              have c28b0 : decide ((ji26) < (x6_4.length : Int)) = true := decide_eq_true c28
                                              clear c28
                                              have HC29 := Aside0.mk H
                                              clear H
                                              have p107 : 0 ≤ (x48_4 : Int) := of_decide_eq_true (by first | (with_reducible assumption) | assumption)
                                              have q107 : x48_4 < (l1.length : Int) := of_decide_eq_true (by first | (with_reducible assumption) | assumption)
                                              obtain ⟨ad107, e107, hx107_0, hx107_1, hx107_2, hx107_3, hx107_4, hx107_5⟩ := at_T93 HR1.out x48_4 p107 q107
                                              cases e107
                                              replace hx107_0 := (HB.out.cell (World.block_lt_of_cell? w _ hx107_0)).trans hx107_0
                                              replace hx107_1 := (HB.out.cell (World.block_lt_of_cell? w _ hx107_1)).trans hx107_1
                                              replace hx107_2 := (HB.out.cell (World.block_lt_of_cell? w _ hx107_2)).trans hx107_2
                                              replace hx107_3 := (HB.out.cell (World.block_lt_of_cell? w _ hx107_3)).trans hx107_3
                                              replace hx107_4 := (HB.out.cell (World.block_lt_of_cell? w _ hx107_4)).trans hx107_4
                                              replace hx107_5 := (HB.out.cell (World.block_lt_of_cell? w _ hx107_5)).trans hx107_5
                                              replace p107 := eq_true p107
                                              replace q107 := eq_true q107
                                              go_upto_region 18 with (first | ((with_reducible refine gate_dst (N := 12) rfl ?_); refine box_event ?hg (N := 12) ?hd (cs := #[.int .i64 0, .int .i64 0, .bool false, .int .i64 0, .int .i64 0, .string (⟨#[]⟩ : ByteArray)]) (t := 93) ?hr ?_; (case hd => rfl); (case hg => rfl); (case hr => first | (go_simp; done) | (go_simp; rfl)); intro gb108 hg w30 hbox hb; have n0_ := Aside0.mk (Kd.R_below (by (with_reducible repeat (first | apply Kd.R_alloc | apply Kd.R_drewN | apply Kd.R_drew)); exact HO_6.out) hb); have n1_ := Aside0.mk (blk_below (g := gb106) (o := .cells #[.int .i64 ((rd_T93 l0 x41_3).f0), .int .i64 ((rd_T93 l0 x41_3).f1), .bool ((rd_T93 l0 x41_3).f2), .int .i64 ((rd_T93 l0 x41_3).f3.f0), .int .i64 ((rd_T93 l0 x41_3).f3.f1), .string ((rd_T93 l0 x41_3).f3.f2)] 93 (0, 0)) (by (with_reducible repeat (first | refine blk_drewN ?_ _ | refine blk_drew ?_ | refine blk_alloc ?_ _)); exact BK106.out) hb); have n2_ := Aside0.mk (below_step (by repeat (first | (with_reducible first | exact HB.out | apply below_alloc | apply pw_below_drewN | apply below_drew1 | refine below_set ?_ GE106.out) | exact HB.out)) hb); have n3_ := Aside0.mk (hbox); have n4_ := Aside0.mk ((by rw [hg]; exact (below_size (by repeat (first | (with_reducible first | exact HB.out | apply below_alloc | apply pw_below_drewN | apply below_drew1 | refine below_set ?_ GE106.out) | exact HB.out))) : w.heap.size ≤ gb108)); have n5_ := Aside0.mk ((by rw [hg]; exact (below_size (by repeat (first | (with_reducible first | exact HB.out | apply below_alloc | apply pw_below_drewN | apply below_drew1 | refine below_set ?_ GE106.out) | exact HB.out))) : w.heap.size ≤ gb108)); have n6_ := Aside0.mk ((by rw [hg]; exact Nat.ne_of_lt (blk_lt (g := gb106) (o := .cells #[.int .i64 ((rd_T93 l0 x41_3).f0), .int .i64 ((rd_T93 l0 x41_3).f1), .bool ((rd_T93 l0 x41_3).f2), .int .i64 ((rd_T93 l0 x41_3).f3.f0), .int .i64 ((rd_T93 l0 x41_3).f3.f1), .string ((rd_T93 l0 x41_3).f3.f2)] 93 (0, 0)) (by (with_reducible repeat (first | refine blk_drewN ?_ _ | refine blk_drew ?_ | refine blk_alloc ?_ _)); exact BK106.out)) : gb106 ≠ gb108)); have n7_ := Aside0.mk ((by rw [hg]; exact Nat.ne_of_gt (blk_lt (g := gb106) (o := .cells #[.int .i64 ((rd_T93 l0 x41_3).f0), .int .i64 ((rd_T93 l0 x41_3).f1), .bool ((rd_T93 l0 x41_3).f2), .int .i64 ((rd_T93 l0 x41_3).f3.f0), .int .i64 ((rd_T93 l0 x41_3).f3.f1), .string ((rd_T93 l0 x41_3).f3.f2)] 93 (0, 0)) (by (with_reducible repeat (first | refine blk_drewN ?_ _ | refine blk_drew ?_ | refine blk_alloc ?_ _)); exact BK106.out)) : gb108 ≠ gb106)); clear HO_6; clear BK106; clear HB; have HO_6 := n0_; have BK106 := n1_; have HB := n2_; have BK108 := n3_; have GW108 := n4_; have GE108 := n5_; have NB106_108 := n6_; have NB108_106 := n7_; clear n0_ n1_ n2_ n3_ n4_ n5_ n6_ n7_; clear hb hbox hg; have hnb31 := NB108_106.out; have hnc31 := NB106_108.out; have hcz32_0 : w30.cell? ⟨gb108, 0, none⟩ = some (.int .i64 0) := (blk_cell BK108.out 0).trans rfl; have hcz32_1 : w30.cell? ⟨gb108, 1, none⟩ = some (.int .i64 0) := (blk_cell BK108.out 1).trans rfl; have hcz32_2 : w30.cell? ⟨gb108, 2, none⟩ = some (.bool false) := (blk_cell BK108.out 2).trans rfl; have hcz32_3 : w30.cell? ⟨gb108, 3, none⟩ = some (.int .i64 0) := (blk_cell BK108.out 3).trans rfl; have hcz32_4 : w30.cell? ⟨gb108, 4, none⟩ = some (.int .i64 0) := (blk_cell BK108.out 4).trans rfl; have hcz32_5 : w30.cell? ⟨gb108, 5, none⟩ = some (.string (⟨#[]⟩ : ByteArray)) := (blk_cell BK108.out 5).trans rfl; have hfz32_0 := blk_frozen BK108.out 0; have hfz32_1 := blk_frozen BK108.out 1; have hfz32_2 := blk_frozen BK108.out 2; have hfz32_3 := blk_frozen BK108.out 3; have hfz32_4 := blk_frozen BK108.out 4; have hfz32_5 := blk_frozen BK108.out 5; have p109 : 0 ≤ (x41_3 : Int) := of_decide_eq_true (by first | (with_reducible assumption) | assumption); have q109 : x41_3 < (x6_4.length : Int) := of_decide_eq_true (by first | (with_reducible assumption) | assumption); obtain ⟨ad109, e109, hx109_0⟩ := Kd.at_int (Kd.R_reads' HO_6.out).2.2 x41_3 p109 q109; cases e109; have hn109_0 : ad109.block ≠ gb108 := Kd.own_blk (Kd.R_ne HO_6.out BK108.out (by decide)); have hn109_1 : ad109.block ≠ gb108 := Kd.own_blk (Kd.R_ne HO_6.out BK108.out (by decide)); have hn109_2 : ad109.block ≠ gb108 := Kd.own_blk (Kd.R_ne HO_6.out BK108.out (by decide)); have hn109_3 : ad109.block ≠ gb108 := Kd.own_blk (Kd.R_ne HO_6.out BK108.out (by decide)); have hn109_4 : ad109.block ≠ gb108 := Kd.own_blk (Kd.R_ne HO_6.out BK108.out (by decide)); have hn109_5 : ad109.block ≠ gb108 := Kd.own_blk (Kd.R_ne HO_6.out BK108.out (by decide)); have hz109 := hx109_0; replace hx109_0 := (cell_far (p := ⟨gb108, 0, none⟩) (by first | (rw [add_block]; exact hn109_0) | (show (Addr.add _ _).block ≠ _; rw [add_block]; exact hn109_0) | exact hn109_0) (.int .i64 ((rd_T93 l1 x48_4).f0))).trans hx109_0; replace hx109_0 := (cell_far (p := ⟨gb108, 1, none⟩) (by first | (rw [add_block]; exact hn109_1) | (show (Addr.add _ _).block ≠ _; rw [add_block]; exact hn109_1) | exact hn109_1) (.int .i64 ((rd_T93 l1 x48_4).f1))).trans hx109_0; replace hx109_0 := (cell_far (p := ⟨gb108, 2, none⟩) (by first | (rw [add_block]; exact hn109_2) | (show (Addr.add _ _).block ≠ _; rw [add_block]; exact hn109_2) | exact hn109_2) (.bool ((rd_T93 l1 x48_4).f2))).trans hx109_0; replace hx109_0 := (cell_far (p := ⟨gb108, 3, none⟩) (by first | (rw [add_block]; exact hn109_3) | (show (Addr.add _ _).block ≠ _; rw [add_block]; exact hn109_3) | exact hn109_3) (.int .i64 ((rd_T93 l1 x48_4).f3.f0))).trans hx109_0; replace hx109_0 := (cell_far (p := ⟨gb108, 4, none⟩) (by first | (rw [add_block]; exact hn109_4) | (show (Addr.add _ _).block ≠ _; rw [add_block]; exact hn109_4) | exact hn109_4) (.int .i64 ((rd_T93 l1 x48_4).f3.f1))).trans hx109_0; replace hx109_0 := (cell_far (p := ⟨gb108, 5, none⟩) (by first | (rw [add_block]; exact hn109_5) | (show (Addr.add _ _).block ≠ _; rw [add_block]; exact hn109_5) | exact hn109_5) (.string ((rd_T93 l1 x48_4).f3.f2))).trans hx109_0; have hy109_0 := fun (n_ : Nat) => ((cell_far (p := ⟨gb108, 5, none⟩) (by first | (rw [add_block]; exact hn109_5) | (show (Addr.add _ _).block ≠ _; rw [add_block]; exact hn109_5) | exact hn109_5) (.string ((rd_T93 l1 x48_4).f3.f2))).trans ((cell_far (p := ⟨gb108, 4, none⟩) (by first | (rw [add_block]; exact hn109_4) | (show (Addr.add _ _).block ≠ _; rw [add_block]; exact hn109_4) | exact hn109_4) (.int .i64 ((rd_T93 l1 x48_4).f3.f1))).trans ((cell_far (p := ⟨gb108, 3, none⟩) (by first | (rw [add_block]; exact hn109_3) | (show (Addr.add _ _).block ≠ _; rw [add_block]; exact hn109_3) | exact hn109_3) (.int .i64 ((rd_T93 l1 x48_4).f3.f0))).trans ((cell_far (p := ⟨gb108, 2, none⟩) (by first | (rw [add_block]; exact hn109_2) | (show (Addr.add _ _).block ≠ _; rw [add_block]; exact hn109_2) | exact hn109_2) (.bool ((rd_T93 l1 x48_4).f2))).trans ((cell_far (p := ⟨gb108, 1, none⟩) (by first | (rw [add_block]; exact hn109_1) | (show (Addr.add _ _).block ≠ _; rw [add_block]; exact hn109_1) | exact hn109_1) (.int .i64 ((rd_T93 l1 x48_4).f1))).trans ((cell_far (p := ⟨gb108, 0, none⟩) (by first | (rw [add_block]; exact hn109_0) | (show (Addr.add _ _).block ≠ _; rw [add_block]; exact hn109_0) | exact hn109_0) (.int .i64 ((rd_T93 l1 x48_4).f0))).trans (show (w30.drewN n_).cell? _ = some _ from hz109))))))); clear hn109_0; clear hn109_1; clear hn109_2; clear hn109_3; clear hn109_4; clear hn109_5; replace p109 := eq_true p109; replace q109 := eq_true q109; have p110 : 0 ≤ ((ji26) : Int) := of_decide_eq_true (by first | (with_reducible assumption) | assumption); have q110 : (ji26) < (x6_4.length : Int) := of_decide_eq_true (by first | (with_reducible assumption) | assumption); obtain ⟨ad110, e110, hx110_0⟩ := Kd.at_int (Kd.R_reads' HO_6.out).2.2 (ji26) p110 q110; obtain rfl : ad109 = ad110 := (by injection e110); have hn110_0 : ad109.block ≠ gb108 := Kd.own_blk (Kd.R_ne HO_6.out BK108.out (by decide)); have hn110_1 : ad109.block ≠ gb108 := Kd.own_blk (Kd.R_ne HO_6.out BK108.out (by decide)); have hn110_2 : ad109.block ≠ gb108 := Kd.own_blk (Kd.R_ne HO_6.out BK108.out (by decide)); have hn110_3 : ad109.block ≠ gb108 := Kd.own_blk (Kd.R_ne HO_6.out BK108.out (by decide)); have hn110_4 : ad109.block ≠ gb108 := Kd.own_blk (Kd.R_ne HO_6.out BK108.out (by decide)); have hn110_5 : ad109.block ≠ gb108 := Kd.own_blk (Kd.R_ne HO_6.out BK108.out (by decide)); have hz110 := hx110_0; replace hx110_0 := (cell_far (p := ⟨gb108, 0, none⟩) (by first | (rw [add_block]; exact hn110_0) | (show (Addr.add _ _).block ≠ _; rw [add_block]; exact hn110_0) | exact hn110_0) (.int .i64 ((rd_T93 l1 x48_4).f0))).trans hx110_0; replace hx110_0 := (cell_far (p := ⟨gb108, 1, none⟩) (by first | (rw [add_block]; exact hn110_1) | (show (Addr.add _ _).block ≠ _; rw [add_block]; exact hn110_1) | exact hn110_1) (.int .i64 ((rd_T93 l1 x48_4).f1))).trans hx110_0; replace hx110_0 := (cell_far (p := ⟨gb108, 2, none⟩) (by first | (rw [add_block]; exact hn110_2) | (show (Addr.add _ _).block ≠ _; rw [add_block]; exact hn110_2) | exact hn110_2) (.bool ((rd_T93 l1 x48_4).f2))).trans hx110_0; replace hx110_0 := (cell_far (p := ⟨gb108, 3, none⟩) (by first | (rw [add_block]; exact hn110_3) | (show (Addr.add _ _).block ≠ _; rw [add_block]; exact hn110_3) | exact hn110_3) (.int .i64 ((rd_T93 l1 x48_4).f3.f0))).trans hx110_0; replace hx110_0 := (cell_far (p := ⟨gb108, 4, none⟩) (by first | (rw [add_block]; exact hn110_4) | (show (Addr.add _ _).block ≠ _; rw [add_block]; exact hn110_4) | exact hn110_4) (.int .i64 ((rd_T93 l1 x48_4).f3.f1))).trans hx110_0; replace hx110_0 := (cell_far (p := ⟨gb108, 5, none⟩) (by first | (rw [add_block]; exact hn110_5) | (show (Addr.add _ _).block ≠ _; rw [add_block]; exact hn110_5) | exact hn110_5) (.string ((rd_T93 l1 x48_4).f3.f2))).trans hx110_0; have hy110_0 := fun (n_ : Nat) => ((cell_far (p := ⟨gb108, 5, none⟩) (by first | (rw [add_block]; exact hn110_5) | (show (Addr.add _ _).block ≠ _; rw [add_block]; exact hn110_5) | exact hn110_5) (.string ((rd_T93 l1 x48_4).f3.f2))).trans ((cell_far (p := ⟨gb108, 4, none⟩) (by first | (rw [add_block]; exact hn110_4) | (show (Addr.add _ _).block ≠ _; rw [add_block]; exact hn110_4) | exact hn110_4) (.int .i64 ((rd_T93 l1 x48_4).f3.f1))).trans ((cell_far (p := ⟨gb108, 3, none⟩) (by first | (rw [add_block]; exact hn110_3) | (show (Addr.add _ _).block ≠ _; rw [add_block]; exact hn110_3) | exact hn110_3) (.int .i64 ((rd_T93 l1 x48_4).f3.f0))).trans ((cell_far (p := ⟨gb108, 2, none⟩) (by first | (rw [add_block]; exact hn110_2) | (show (Addr.add _ _).block ≠ _; rw [add_block]; exact hn110_2) | exact hn110_2) (.bool ((rd_T93 l1 x48_4).f2))).trans ((cell_far (p := ⟨gb108, 1, none⟩) (by first | (rw [add_block]; exact hn110_1) | (show (Addr.add _ _).block ≠ _; rw [add_block]; exact hn110_1) | exact hn110_1) (.int .i64 ((rd_T93 l1 x48_4).f1))).trans ((cell_far (p := ⟨gb108, 0, none⟩) (by first | (rw [add_block]; exact hn110_0) | (show (Addr.add _ _).block ≠ _; rw [add_block]; exact hn110_0) | exact hn110_0) (.int .i64 ((rd_T93 l1 x48_4).f0))).trans (show (w30.drewN n_).cell? _ = some _ from hz110))))))); clear hn110_0; clear hn110_1; clear hn110_2; clear hn110_3; clear hn110_4; clear hn110_5; replace p110 := eq_true p110; replace q110 := eq_true q110))
                                              repeat (go_quiet (first | ((with_reducible refine gate_dst (N := 12) rfl ?_); refine box_event ?hg (N := 12) ?hd (cs := #[.int .i64 0, .int .i64 0, .bool false, .int .i64 0, .int .i64 0, .string (⟨#[]⟩ : ByteArray)]) (t := 93) ?hr ?_; (case hd => rfl); (case hg => rfl); (case hr => first | (go_simp; done) | (go_simp; rfl)); intro gb108 hg w30 hbox hb; have n0_ := Aside0.mk (Kd.R_below (by (with_reducible repeat (first | apply Kd.R_alloc | apply Kd.R_drewN | apply Kd.R_drew)); exact HO_6.out) hb); have n1_ := Aside0.mk (blk_below (g := gb106) (o := .cells #[.int .i64 ((rd_T93 l0 x41_3).f0), .int .i64 ((rd_T93 l0 x41_3).f1), .bool ((rd_T93 l0 x41_3).f2), .int .i64 ((rd_T93 l0 x41_3).f3.f0), .int .i64 ((rd_T93 l0 x41_3).f3.f1), .string ((rd_T93 l0 x41_3).f3.f2)] 93 (0, 0)) (by (with_reducible repeat (first | refine blk_drewN ?_ _ | refine blk_drew ?_ | refine blk_alloc ?_ _)); exact BK106.out) hb); have n2_ := Aside0.mk (below_step (by repeat (first | (with_reducible first | exact HB.out | apply below_alloc | apply pw_below_drewN | apply below_drew1 | refine below_set ?_ GE106.out) | exact HB.out)) hb); have n3_ := Aside0.mk (hbox); have n4_ := Aside0.mk ((by rw [hg]; exact (below_size (by repeat (first | (with_reducible first | exact HB.out | apply below_alloc | apply pw_below_drewN | apply below_drew1 | refine below_set ?_ GE106.out) | exact HB.out))) : w.heap.size ≤ gb108)); have n5_ := Aside0.mk ((by rw [hg]; exact (below_size (by repeat (first | (with_reducible first | exact HB.out | apply below_alloc | apply pw_below_drewN | apply below_drew1 | refine below_set ?_ GE106.out) | exact HB.out))) : w.heap.size ≤ gb108)); have n6_ := Aside0.mk ((by rw [hg]; exact Nat.ne_of_lt (blk_lt (g := gb106) (o := .cells #[.int .i64 ((rd_T93 l0 x41_3).f0), .int .i64 ((rd_T93 l0 x41_3).f1), .bool ((rd_T93 l0 x41_3).f2), .int .i64 ((rd_T93 l0 x41_3).f3.f0), .int .i64 ((rd_T93 l0 x41_3).f3.f1), .string ((rd_T93 l0 x41_3).f3.f2)] 93 (0, 0)) (by (with_reducible repeat (first | refine blk_drewN ?_ _ | refine blk_drew ?_ | refine blk_alloc ?_ _)); exact BK106.out)) : gb106 ≠ gb108)); have n7_ := Aside0.mk ((by rw [hg]; exact Nat.ne_of_gt (blk_lt (g := gb106) (o := .cells #[.int .i64 ((rd_T93 l0 x41_3).f0), .int .i64 ((rd_T93 l0 x41_3).f1), .bool ((rd_T93 l0 x41_3).f2), .int .i64 ((rd_T93 l0 x41_3).f3.f0), .int .i64 ((rd_T93 l0 x41_3).f3.f1), .string ((rd_T93 l0 x41_3).f3.f2)] 93 (0, 0)) (by (with_reducible repeat (first | refine blk_drewN ?_ _ | refine blk_drew ?_ | refine blk_alloc ?_ _)); exact BK106.out)) : gb108 ≠ gb106)); clear HO_6; clear BK106; clear HB; have HO_6 := n0_; have BK106 := n1_; have HB := n2_; have BK108 := n3_; have GW108 := n4_; have GE108 := n5_; have NB106_108 := n6_; have NB108_106 := n7_; clear n0_ n1_ n2_ n3_ n4_ n5_ n6_ n7_; clear hb hbox hg; have hnb31 := NB108_106.out; have hnc31 := NB106_108.out; have hcz32_0 : w30.cell? ⟨gb108, 0, none⟩ = some (.int .i64 0) := (blk_cell BK108.out 0).trans rfl; have hcz32_1 : w30.cell? ⟨gb108, 1, none⟩ = some (.int .i64 0) := (blk_cell BK108.out 1).trans rfl; have hcz32_2 : w30.cell? ⟨gb108, 2, none⟩ = some (.bool false) := (blk_cell BK108.out 2).trans rfl; have hcz32_3 : w30.cell? ⟨gb108, 3, none⟩ = some (.int .i64 0) := (blk_cell BK108.out 3).trans rfl; have hcz32_4 : w30.cell? ⟨gb108, 4, none⟩ = some (.int .i64 0) := (blk_cell BK108.out 4).trans rfl; have hcz32_5 : w30.cell? ⟨gb108, 5, none⟩ = some (.string (⟨#[]⟩ : ByteArray)) := (blk_cell BK108.out 5).trans rfl; have hfz32_0 := blk_frozen BK108.out 0; have hfz32_1 := blk_frozen BK108.out 1; have hfz32_2 := blk_frozen BK108.out 2; have hfz32_3 := blk_frozen BK108.out 3; have hfz32_4 := blk_frozen BK108.out 4; have hfz32_5 := blk_frozen BK108.out 5; have p109 : 0 ≤ (x41_3 : Int) := of_decide_eq_true (by first | (with_reducible assumption) | assumption); have q109 : x41_3 < (x6_4.length : Int) := of_decide_eq_true (by first | (with_reducible assumption) | assumption); obtain ⟨ad109, e109, hx109_0⟩ := Kd.at_int (Kd.R_reads' HO_6.out).2.2 x41_3 p109 q109; cases e109; have hn109_0 : ad109.block ≠ gb108 := Kd.own_blk (Kd.R_ne HO_6.out BK108.out (by decide)); have hn109_1 : ad109.block ≠ gb108 := Kd.own_blk (Kd.R_ne HO_6.out BK108.out (by decide)); have hn109_2 : ad109.block ≠ gb108 := Kd.own_blk (Kd.R_ne HO_6.out BK108.out (by decide)); have hn109_3 : ad109.block ≠ gb108 := Kd.own_blk (Kd.R_ne HO_6.out BK108.out (by decide)); have hn109_4 : ad109.block ≠ gb108 := Kd.own_blk (Kd.R_ne HO_6.out BK108.out (by decide)); have hn109_5 : ad109.block ≠ gb108 := Kd.own_blk (Kd.R_ne HO_6.out BK108.out (by decide)); have hz109 := hx109_0; replace hx109_0 := (cell_far (p := ⟨gb108, 0, none⟩) (by first | (rw [add_block]; exact hn109_0) | (show (Addr.add _ _).block ≠ _; rw [add_block]; exact hn109_0) | exact hn109_0) (.int .i64 ((rd_T93 l1 x48_4).f0))).trans hx109_0; replace hx109_0 := (cell_far (p := ⟨gb108, 1, none⟩) (by first | (rw [add_block]; exact hn109_1) | (show (Addr.add _ _).block ≠ _; rw [add_block]; exact hn109_1) | exact hn109_1) (.int .i64 ((rd_T93 l1 x48_4).f1))).trans hx109_0; replace hx109_0 := (cell_far (p := ⟨gb108, 2, none⟩) (by first | (rw [add_block]; exact hn109_2) | (show (Addr.add _ _).block ≠ _; rw [add_block]; exact hn109_2) | exact hn109_2) (.bool ((rd_T93 l1 x48_4).f2))).trans hx109_0; replace hx109_0 := (cell_far (p := ⟨gb108, 3, none⟩) (by first | (rw [add_block]; exact hn109_3) | (show (Addr.add _ _).block ≠ _; rw [add_block]; exact hn109_3) | exact hn109_3) (.int .i64 ((rd_T93 l1 x48_4).f3.f0))).trans hx109_0; replace hx109_0 := (cell_far (p := ⟨gb108, 4, none⟩) (by first | (rw [add_block]; exact hn109_4) | (show (Addr.add _ _).block ≠ _; rw [add_block]; exact hn109_4) | exact hn109_4) (.int .i64 ((rd_T93 l1 x48_4).f3.f1))).trans hx109_0; replace hx109_0 := (cell_far (p := ⟨gb108, 5, none⟩) (by first | (rw [add_block]; exact hn109_5) | (show (Addr.add _ _).block ≠ _; rw [add_block]; exact hn109_5) | exact hn109_5) (.string ((rd_T93 l1 x48_4).f3.f2))).trans hx109_0; have hy109_0 := fun (n_ : Nat) => ((cell_far (p := ⟨gb108, 5, none⟩) (by first | (rw [add_block]; exact hn109_5) | (show (Addr.add _ _).block ≠ _; rw [add_block]; exact hn109_5) | exact hn109_5) (.string ((rd_T93 l1 x48_4).f3.f2))).trans ((cell_far (p := ⟨gb108, 4, none⟩) (by first | (rw [add_block]; exact hn109_4) | (show (Addr.add _ _).block ≠ _; rw [add_block]; exact hn109_4) | exact hn109_4) (.int .i64 ((rd_T93 l1 x48_4).f3.f1))).trans ((cell_far (p := ⟨gb108, 3, none⟩) (by first | (rw [add_block]; exact hn109_3) | (show (Addr.add _ _).block ≠ _; rw [add_block]; exact hn109_3) | exact hn109_3) (.int .i64 ((rd_T93 l1 x48_4).f3.f0))).trans ((cell_far (p := ⟨gb108, 2, none⟩) (by first | (rw [add_block]; exact hn109_2) | (show (Addr.add _ _).block ≠ _; rw [add_block]; exact hn109_2) | exact hn109_2) (.bool ((rd_T93 l1 x48_4).f2))).trans ((cell_far (p := ⟨gb108, 1, none⟩) (by first | (rw [add_block]; exact hn109_1) | (show (Addr.add _ _).block ≠ _; rw [add_block]; exact hn109_1) | exact hn109_1) (.int .i64 ((rd_T93 l1 x48_4).f1))).trans ((cell_far (p := ⟨gb108, 0, none⟩) (by first | (rw [add_block]; exact hn109_0) | (show (Addr.add _ _).block ≠ _; rw [add_block]; exact hn109_0) | exact hn109_0) (.int .i64 ((rd_T93 l1 x48_4).f0))).trans (show (w30.drewN n_).cell? _ = some _ from hz109))))))); clear hn109_0; clear hn109_1; clear hn109_2; clear hn109_3; clear hn109_4; clear hn109_5; replace p109 := eq_true p109; replace q109 := eq_true q109; have p110 : 0 ≤ ((ji26) : Int) := of_decide_eq_true (by first | (with_reducible assumption) | assumption); have q110 : (ji26) < (x6_4.length : Int) := of_decide_eq_true (by first | (with_reducible assumption) | assumption); obtain ⟨ad110, e110, hx110_0⟩ := Kd.at_int (Kd.R_reads' HO_6.out).2.2 (ji26) p110 q110; obtain rfl : ad109 = ad110 := (by injection e110); have hn110_0 : ad109.block ≠ gb108 := Kd.own_blk (Kd.R_ne HO_6.out BK108.out (by decide)); have hn110_1 : ad109.block ≠ gb108 := Kd.own_blk (Kd.R_ne HO_6.out BK108.out (by decide)); have hn110_2 : ad109.block ≠ gb108 := Kd.own_blk (Kd.R_ne HO_6.out BK108.out (by decide)); have hn110_3 : ad109.block ≠ gb108 := Kd.own_blk (Kd.R_ne HO_6.out BK108.out (by decide)); have hn110_4 : ad109.block ≠ gb108 := Kd.own_blk (Kd.R_ne HO_6.out BK108.out (by decide)); have hn110_5 : ad109.block ≠ gb108 := Kd.own_blk (Kd.R_ne HO_6.out BK108.out (by decide)); have hz110 := hx110_0; replace hx110_0 := (cell_far (p := ⟨gb108, 0, none⟩) (by first | (rw [add_block]; exact hn110_0) | (show (Addr.add _ _).block ≠ _; rw [add_block]; exact hn110_0) | exact hn110_0) (.int .i64 ((rd_T93 l1 x48_4).f0))).trans hx110_0; replace hx110_0 := (cell_far (p := ⟨gb108, 1, none⟩) (by first | (rw [add_block]; exact hn110_1) | (show (Addr.add _ _).block ≠ _; rw [add_block]; exact hn110_1) | exact hn110_1) (.int .i64 ((rd_T93 l1 x48_4).f1))).trans hx110_0; replace hx110_0 := (cell_far (p := ⟨gb108, 2, none⟩) (by first | (rw [add_block]; exact hn110_2) | (show (Addr.add _ _).block ≠ _; rw [add_block]; exact hn110_2) | exact hn110_2) (.bool ((rd_T93 l1 x48_4).f2))).trans hx110_0; replace hx110_0 := (cell_far (p := ⟨gb108, 3, none⟩) (by first | (rw [add_block]; exact hn110_3) | (show (Addr.add _ _).block ≠ _; rw [add_block]; exact hn110_3) | exact hn110_3) (.int .i64 ((rd_T93 l1 x48_4).f3.f0))).trans hx110_0; replace hx110_0 := (cell_far (p := ⟨gb108, 4, none⟩) (by first | (rw [add_block]; exact hn110_4) | (show (Addr.add _ _).block ≠ _; rw [add_block]; exact hn110_4) | exact hn110_4) (.int .i64 ((rd_T93 l1 x48_4).f3.f1))).trans hx110_0; replace hx110_0 := (cell_far (p := ⟨gb108, 5, none⟩) (by first | (rw [add_block]; exact hn110_5) | (show (Addr.add _ _).block ≠ _; rw [add_block]; exact hn110_5) | exact hn110_5) (.string ((rd_T93 l1 x48_4).f3.f2))).trans hx110_0; have hy110_0 := fun (n_ : Nat) => ((cell_far (p := ⟨gb108, 5, none⟩) (by first | (rw [add_block]; exact hn110_5) | (show (Addr.add _ _).block ≠ _; rw [add_block]; exact hn110_5) | exact hn110_5) (.string ((rd_T93 l1 x48_4).f3.f2))).trans ((cell_far (p := ⟨gb108, 4, none⟩) (by first | (rw [add_block]; exact hn110_4) | (show (Addr.add _ _).block ≠ _; rw [add_block]; exact hn110_4) | exact hn110_4) (.int .i64 ((rd_T93 l1 x48_4).f3.f1))).trans ((cell_far (p := ⟨gb108, 3, none⟩) (by first | (rw [add_block]; exact hn110_3) | (show (Addr.add _ _).block ≠ _; rw [add_block]; exact hn110_3) | exact hn110_3) (.int .i64 ((rd_T93 l1 x48_4).f3.f0))).trans ((cell_far (p := ⟨gb108, 2, none⟩) (by first | (rw [add_block]; exact hn110_2) | (show (Addr.add _ _).block ≠ _; rw [add_block]; exact hn110_2) | exact hn110_2) (.bool ((rd_T93 l1 x48_4).f2))).trans ((cell_far (p := ⟨gb108, 1, none⟩) (by first | (rw [add_block]; exact hn110_1) | (show (Addr.add _ _).block ≠ _; rw [add_block]; exact hn110_1) | exact hn110_1) (.int .i64 ((rd_T93 l1 x48_4).f1))).trans ((cell_far (p := ⟨gb108, 0, none⟩) (by first | (rw [add_block]; exact hn110_0) | (show (Addr.add _ _).block ≠ _; rw [add_block]; exact hn110_0) | exact hn110_0) (.int .i64 ((rd_T93 l1 x48_4).f0))).trans (show (w30.drewN n_).cell? _ = some _ from hz110))))))); clear hn110_0; clear hn110_1; clear hn110_2; clear hn110_3; clear hn110_4; clear hn110_5; replace p110 := eq_true p110; replace q110 := eq_true q110)); go_upto_region 18 with (first | ((with_reducible refine gate_dst (N := 12) rfl ?_); refine box_event ?hg (N := 12) ?hd (cs := #[.int .i64 0, .int .i64 0, .bool false, .int .i64 0, .int .i64 0, .string (⟨#[]⟩ : ByteArray)]) (t := 93) ?hr ?_; (case hd => rfl); (case hg => rfl); (case hr => first | (go_simp; done) | (go_simp; rfl)); intro gb108 hg w30 hbox hb; have n0_ := Aside0.mk (Kd.R_below (by (with_reducible repeat (first | apply Kd.R_alloc | apply Kd.R_drewN | apply Kd.R_drew)); exact HO_6.out) hb); have n1_ := Aside0.mk (blk_below (g := gb106) (o := .cells #[.int .i64 ((rd_T93 l0 x41_3).f0), .int .i64 ((rd_T93 l0 x41_3).f1), .bool ((rd_T93 l0 x41_3).f2), .int .i64 ((rd_T93 l0 x41_3).f3.f0), .int .i64 ((rd_T93 l0 x41_3).f3.f1), .string ((rd_T93 l0 x41_3).f3.f2)] 93 (0, 0)) (by (with_reducible repeat (first | refine blk_drewN ?_ _ | refine blk_drew ?_ | refine blk_alloc ?_ _)); exact BK106.out) hb); have n2_ := Aside0.mk (below_step (by repeat (first | (with_reducible first | exact HB.out | apply below_alloc | apply pw_below_drewN | apply below_drew1 | refine below_set ?_ GE106.out) | exact HB.out)) hb); have n3_ := Aside0.mk (hbox); have n4_ := Aside0.mk ((by rw [hg]; exact (below_size (by repeat (first | (with_reducible first | exact HB.out | apply below_alloc | apply pw_below_drewN | apply below_drew1 | refine below_set ?_ GE106.out) | exact HB.out))) : w.heap.size ≤ gb108)); have n5_ := Aside0.mk ((by rw [hg]; exact (below_size (by repeat (first | (with_reducible first | exact HB.out | apply below_alloc | apply pw_below_drewN | apply below_drew1 | refine below_set ?_ GE106.out) | exact HB.out))) : w.heap.size ≤ gb108)); have n6_ := Aside0.mk ((by rw [hg]; exact Nat.ne_of_lt (blk_lt (g := gb106) (o := .cells #[.int .i64 ((rd_T93 l0 x41_3).f0), .int .i64 ((rd_T93 l0 x41_3).f1), .bool ((rd_T93 l0 x41_3).f2), .int .i64 ((rd_T93 l0 x41_3).f3.f0), .int .i64 ((rd_T93 l0 x41_3).f3.f1), .string ((rd_T93 l0 x41_3).f3.f2)] 93 (0, 0)) (by (with_reducible repeat (first | refine blk_drewN ?_ _ | refine blk_drew ?_ | refine blk_alloc ?_ _)); exact BK106.out)) : gb106 ≠ gb108)); have n7_ := Aside0.mk ((by rw [hg]; exact Nat.ne_of_gt (blk_lt (g := gb106) (o := .cells #[.int .i64 ((rd_T93 l0 x41_3).f0), .int .i64 ((rd_T93 l0 x41_3).f1), .bool ((rd_T93 l0 x41_3).f2), .int .i64 ((rd_T93 l0 x41_3).f3.f0), .int .i64 ((rd_T93 l0 x41_3).f3.f1), .string ((rd_T93 l0 x41_3).f3.f2)] 93 (0, 0)) (by (with_reducible repeat (first | refine blk_drewN ?_ _ | refine blk_drew ?_ | refine blk_alloc ?_ _)); exact BK106.out)) : gb108 ≠ gb106)); clear HO_6; clear BK106; clear HB; have HO_6 := n0_; have BK106 := n1_; have HB := n2_; have BK108 := n3_; have GW108 := n4_; have GE108 := n5_; have NB106_108 := n6_; have NB108_106 := n7_; clear n0_ n1_ n2_ n3_ n4_ n5_ n6_ n7_; clear hb hbox hg; have hnb31 := NB108_106.out; have hnc31 := NB106_108.out; have hcz32_0 : w30.cell? ⟨gb108, 0, none⟩ = some (.int .i64 0) := (blk_cell BK108.out 0).trans rfl; have hcz32_1 : w30.cell? ⟨gb108, 1, none⟩ = some (.int .i64 0) := (blk_cell BK108.out 1).trans rfl; have hcz32_2 : w30.cell? ⟨gb108, 2, none⟩ = some (.bool false) := (blk_cell BK108.out 2).trans rfl; have hcz32_3 : w30.cell? ⟨gb108, 3, none⟩ = some (.int .i64 0) := (blk_cell BK108.out 3).trans rfl; have hcz32_4 : w30.cell? ⟨gb108, 4, none⟩ = some (.int .i64 0) := (blk_cell BK108.out 4).trans rfl; have hcz32_5 : w30.cell? ⟨gb108, 5, none⟩ = some (.string (⟨#[]⟩ : ByteArray)) := (blk_cell BK108.out 5).trans rfl; have hfz32_0 := blk_frozen BK108.out 0; have hfz32_1 := blk_frozen BK108.out 1; have hfz32_2 := blk_frozen BK108.out 2; have hfz32_3 := blk_frozen BK108.out 3; have hfz32_4 := blk_frozen BK108.out 4; have hfz32_5 := blk_frozen BK108.out 5; have p109 : 0 ≤ (x41_3 : Int) := of_decide_eq_true (by first | (with_reducible assumption) | assumption); have q109 : x41_3 < (x6_4.length : Int) := of_decide_eq_true (by first | (with_reducible assumption) | assumption); obtain ⟨ad109, e109, hx109_0⟩ := Kd.at_int (Kd.R_reads' HO_6.out).2.2 x41_3 p109 q109; cases e109; have hn109_0 : ad109.block ≠ gb108 := Kd.own_blk (Kd.R_ne HO_6.out BK108.out (by decide)); have hn109_1 : ad109.block ≠ gb108 := Kd.own_blk (Kd.R_ne HO_6.out BK108.out (by decide)); have hn109_2 : ad109.block ≠ gb108 := Kd.own_blk (Kd.R_ne HO_6.out BK108.out (by decide)); have hn109_3 : ad109.block ≠ gb108 := Kd.own_blk (Kd.R_ne HO_6.out BK108.out (by decide)); have hn109_4 : ad109.block ≠ gb108 := Kd.own_blk (Kd.R_ne HO_6.out BK108.out (by decide)); have hn109_5 : ad109.block ≠ gb108 := Kd.own_blk (Kd.R_ne HO_6.out BK108.out (by decide)); have hz109 := hx109_0; replace hx109_0 := (cell_far (p := ⟨gb108, 0, none⟩) (by first | (rw [add_block]; exact hn109_0) | (show (Addr.add _ _).block ≠ _; rw [add_block]; exact hn109_0) | exact hn109_0) (.int .i64 ((rd_T93 l1 x48_4).f0))).trans hx109_0; replace hx109_0 := (cell_far (p := ⟨gb108, 1, none⟩) (by first | (rw [add_block]; exact hn109_1) | (show (Addr.add _ _).block ≠ _; rw [add_block]; exact hn109_1) | exact hn109_1) (.int .i64 ((rd_T93 l1 x48_4).f1))).trans hx109_0; replace hx109_0 := (cell_far (p := ⟨gb108, 2, none⟩) (by first | (rw [add_block]; exact hn109_2) | (show (Addr.add _ _).block ≠ _; rw [add_block]; exact hn109_2) | exact hn109_2) (.bool ((rd_T93 l1 x48_4).f2))).trans hx109_0; replace hx109_0 := (cell_far (p := ⟨gb108, 3, none⟩) (by first | (rw [add_block]; exact hn109_3) | (show (Addr.add _ _).block ≠ _; rw [add_block]; exact hn109_3) | exact hn109_3) (.int .i64 ((rd_T93 l1 x48_4).f3.f0))).trans hx109_0; replace hx109_0 := (cell_far (p := ⟨gb108, 4, none⟩) (by first | (rw [add_block]; exact hn109_4) | (show (Addr.add _ _).block ≠ _; rw [add_block]; exact hn109_4) | exact hn109_4) (.int .i64 ((rd_T93 l1 x48_4).f3.f1))).trans hx109_0; replace hx109_0 := (cell_far (p := ⟨gb108, 5, none⟩) (by first | (rw [add_block]; exact hn109_5) | (show (Addr.add _ _).block ≠ _; rw [add_block]; exact hn109_5) | exact hn109_5) (.string ((rd_T93 l1 x48_4).f3.f2))).trans hx109_0; have hy109_0 := fun (n_ : Nat) => ((cell_far (p := ⟨gb108, 5, none⟩) (by first | (rw [add_block]; exact hn109_5) | (show (Addr.add _ _).block ≠ _; rw [add_block]; exact hn109_5) | exact hn109_5) (.string ((rd_T93 l1 x48_4).f3.f2))).trans ((cell_far (p := ⟨gb108, 4, none⟩) (by first | (rw [add_block]; exact hn109_4) | (show (Addr.add _ _).block ≠ _; rw [add_block]; exact hn109_4) | exact hn109_4) (.int .i64 ((rd_T93 l1 x48_4).f3.f1))).trans ((cell_far (p := ⟨gb108, 3, none⟩) (by first | (rw [add_block]; exact hn109_3) | (show (Addr.add _ _).block ≠ _; rw [add_block]; exact hn109_3) | exact hn109_3) (.int .i64 ((rd_T93 l1 x48_4).f3.f0))).trans ((cell_far (p := ⟨gb108, 2, none⟩) (by first | (rw [add_block]; exact hn109_2) | (show (Addr.add _ _).block ≠ _; rw [add_block]; exact hn109_2) | exact hn109_2) (.bool ((rd_T93 l1 x48_4).f2))).trans ((cell_far (p := ⟨gb108, 1, none⟩) (by first | (rw [add_block]; exact hn109_1) | (show (Addr.add _ _).block ≠ _; rw [add_block]; exact hn109_1) | exact hn109_1) (.int .i64 ((rd_T93 l1 x48_4).f1))).trans ((cell_far (p := ⟨gb108, 0, none⟩) (by first | (rw [add_block]; exact hn109_0) | (show (Addr.add _ _).block ≠ _; rw [add_block]; exact hn109_0) | exact hn109_0) (.int .i64 ((rd_T93 l1 x48_4).f0))).trans (show (w30.drewN n_).cell? _ = some _ from hz109))))))); clear hn109_0; clear hn109_1; clear hn109_2; clear hn109_3; clear hn109_4; clear hn109_5; replace p109 := eq_true p109; replace q109 := eq_true q109; have p110 : 0 ≤ ((ji26) : Int) := of_decide_eq_true (by first | (with_reducible assumption) | assumption); have q110 : (ji26) < (x6_4.length : Int) := of_decide_eq_true (by first | (with_reducible assumption) | assumption); obtain ⟨ad110, e110, hx110_0⟩ := Kd.at_int (Kd.R_reads' HO_6.out).2.2 (ji26) p110 q110; obtain rfl : ad109 = ad110 := (by injection e110); have hn110_0 : ad109.block ≠ gb108 := Kd.own_blk (Kd.R_ne HO_6.out BK108.out (by decide)); have hn110_1 : ad109.block ≠ gb108 := Kd.own_blk (Kd.R_ne HO_6.out BK108.out (by decide)); have hn110_2 : ad109.block ≠ gb108 := Kd.own_blk (Kd.R_ne HO_6.out BK108.out (by decide)); have hn110_3 : ad109.block ≠ gb108 := Kd.own_blk (Kd.R_ne HO_6.out BK108.out (by decide)); have hn110_4 : ad109.block ≠ gb108 := Kd.own_blk (Kd.R_ne HO_6.out BK108.out (by decide)); have hn110_5 : ad109.block ≠ gb108 := Kd.own_blk (Kd.R_ne HO_6.out BK108.out (by decide)); have hz110 := hx110_0; replace hx110_0 := (cell_far (p := ⟨gb108, 0, none⟩) (by first | (rw [add_block]; exact hn110_0) | (show (Addr.add _ _).block ≠ _; rw [add_block]; exact hn110_0) | exact hn110_0) (.int .i64 ((rd_T93 l1 x48_4).f0))).trans hx110_0; replace hx110_0 := (cell_far (p := ⟨gb108, 1, none⟩) (by first | (rw [add_block]; exact hn110_1) | (show (Addr.add _ _).block ≠ _; rw [add_block]; exact hn110_1) | exact hn110_1) (.int .i64 ((rd_T93 l1 x48_4).f1))).trans hx110_0; replace hx110_0 := (cell_far (p := ⟨gb108, 2, none⟩) (by first | (rw [add_block]; exact hn110_2) | (show (Addr.add _ _).block ≠ _; rw [add_block]; exact hn110_2) | exact hn110_2) (.bool ((rd_T93 l1 x48_4).f2))).trans hx110_0; replace hx110_0 := (cell_far (p := ⟨gb108, 3, none⟩) (by first | (rw [add_block]; exact hn110_3) | (show (Addr.add _ _).block ≠ _; rw [add_block]; exact hn110_3) | exact hn110_3) (.int .i64 ((rd_T93 l1 x48_4).f3.f0))).trans hx110_0; replace hx110_0 := (cell_far (p := ⟨gb108, 4, none⟩) (by first | (rw [add_block]; exact hn110_4) | (show (Addr.add _ _).block ≠ _; rw [add_block]; exact hn110_4) | exact hn110_4) (.int .i64 ((rd_T93 l1 x48_4).f3.f1))).trans hx110_0; replace hx110_0 := (cell_far (p := ⟨gb108, 5, none⟩) (by first | (rw [add_block]; exact hn110_5) | (show (Addr.add _ _).block ≠ _; rw [add_block]; exact hn110_5) | exact hn110_5) (.string ((rd_T93 l1 x48_4).f3.f2))).trans hx110_0; have hy110_0 := fun (n_ : Nat) => ((cell_far (p := ⟨gb108, 5, none⟩) (by first | (rw [add_block]; exact hn110_5) | (show (Addr.add _ _).block ≠ _; rw [add_block]; exact hn110_5) | exact hn110_5) (.string ((rd_T93 l1 x48_4).f3.f2))).trans ((cell_far (p := ⟨gb108, 4, none⟩) (by first | (rw [add_block]; exact hn110_4) | (show (Addr.add _ _).block ≠ _; rw [add_block]; exact hn110_4) | exact hn110_4) (.int .i64 ((rd_T93 l1 x48_4).f3.f1))).trans ((cell_far (p := ⟨gb108, 3, none⟩) (by first | (rw [add_block]; exact hn110_3) | (show (Addr.add _ _).block ≠ _; rw [add_block]; exact hn110_3) | exact hn110_3) (.int .i64 ((rd_T93 l1 x48_4).f3.f0))).trans ((cell_far (p := ⟨gb108, 2, none⟩) (by first | (rw [add_block]; exact hn110_2) | (show (Addr.add _ _).block ≠ _; rw [add_block]; exact hn110_2) | exact hn110_2) (.bool ((rd_T93 l1 x48_4).f2))).trans ((cell_far (p := ⟨gb108, 1, none⟩) (by first | (rw [add_block]; exact hn110_1) | (show (Addr.add _ _).block ≠ _; rw [add_block]; exact hn110_1) | exact hn110_1) (.int .i64 ((rd_T93 l1 x48_4).f1))).trans ((cell_far (p := ⟨gb108, 0, none⟩) (by first | (rw [add_block]; exact hn110_0) | (show (Addr.add _ _).block ≠ _; rw [add_block]; exact hn110_0) | exact hn110_0) (.int .i64 ((rd_T93 l1 x48_4).f0))).trans (show (w30.drewN n_).cell? _ = some _ from hz110))))))); clear hn110_0; clear hn110_1; clear hn110_2; clear hn110_3; clear hn110_4; clear hn110_5; replace p110 := eq_true p110; replace q110 := eq_true q110)))
                                              (try simp only [Act.put, List.setIfInBounds_toArray, List.set_cons_zero, List.set_cons_succ])
                                              go_cut [80] (fun v80 wc => ∃ (kq : Nat) (x80_28 : Bool), v80 = .bool x80_28 ∧ Aside0 (rope_groupsV.j4 kq l0 l1 l2 x6_4 x8_4 x41_3 (rd x6_4 x41_3) (rd x6_4 (ji26)) l0 (l0.length : Int) x41_3 l1 (l1.length : Int) x48_4 x80_28 ((rd_T93 l0 x41_3).f0) ((rd_T93 l0 x41_3).f1) ((rd_T93 l0 x41_3).f2) ((rd_T93 l0 x41_3).f3.f0) ((rd_T93 l0 x41_3).f3.f1) ((rd_T93 l0 x41_3).f3.f2) = some r) ∧ Aside0 (kq ≤ k4) ∧ Aside0 (Kd.R (Kd.int .i64) 3 wc w.heap.size (fun _ => True) (.slice (some ad109) x6_4.length co8) x6_4) ∧ Aside0 (wc.heap[gb106]? = some (.cells #[.int .i64 ((rd_T93 l0 x41_3).f0), .int .i64 ((rd_T93 l0 x41_3).f1), .bool ((rd_T93 l0 x41_3).f2), .int .i64 ((rd_T93 l0 x41_3).f3.f0), .int .i64 ((rd_T93 l0 x41_3).f3.f1), .string ((rd_T93 l0 x41_3).f3.f2)] 93 (0, 0))) ∧ Aside0 (wc.heap[gb108]? = some (.cells #[.int .i64 ((rd_T93 l1 x48_4).f0), .int .i64 ((rd_T93 l1 x48_4).f1), .bool ((rd_T93 l1 x48_4).f2), .int .i64 ((rd_T93 l1 x48_4).f3.f0), .int .i64 ((rd_T93 l1 x48_4).f3.f1), .string ((rd_T93 l1 x48_4).f3.f2)] 93 (0, 0))) ∧ Aside0 (Below w.heap.size w wc))
                                              case first =>
                                                have H := HC29.out
                                                clear HC29
                                                by_cases c33 : ((rd_T93 l0 x41_3).f1) < ((rd_T93 l1 x48_4).f0)
                                                · rw [if_pos c33] at H
                                                  have c33b0 : decide (((rd_T93 l0 x41_3).f1) < ((rd_T93 l1 x48_4).f0)) = true := decide_eq_true c33
                                                  clear c33
                                                  (first | rw [c33b0] | (simp only [i64_w, i32_w]; rw [c33b0]) | skip)
                                                  have H' := Aside0.mk H
                                                  clear H
                                                  have hnb34 := NB106_108.out
                                                  have hnc34 := NB108_106.out
                                                  have hcz35_0 : w30.cell? ⟨gb106, 0, none⟩ = some (.int .i64 ((rd_T93 l0 x41_3).f0)) := (blk_cell BK106.out 0).trans rfl
                                                  have hcz35_1 : w30.cell? ⟨gb106, 1, none⟩ = some (.int .i64 ((rd_T93 l0 x41_3).f1)) := (blk_cell BK106.out 1).trans rfl
                                                  have hcz35_2 : w30.cell? ⟨gb106, 2, none⟩ = some (.bool ((rd_T93 l0 x41_3).f2)) := (blk_cell BK106.out 2).trans rfl
                                                  have hcz35_3 : w30.cell? ⟨gb106, 3, none⟩ = some (.int .i64 ((rd_T93 l0 x41_3).f3.f0)) := (blk_cell BK106.out 3).trans rfl
                                                  have hcz35_4 : w30.cell? ⟨gb106, 4, none⟩ = some (.int .i64 ((rd_T93 l0 x41_3).f3.f1)) := (blk_cell BK106.out 4).trans rfl
                                                  have hcz35_5 : w30.cell? ⟨gb106, 5, none⟩ = some (.string ((rd_T93 l0 x41_3).f3.f2)) := (blk_cell BK106.out 5).trans rfl
                                                  have hfz35_0 := blk_frozen BK106.out 0
                                                  have hfz35_1 := blk_frozen BK106.out 1
                                                  have hfz35_2 := blk_frozen BK106.out 2
                                                  have hfz35_3 := blk_frozen BK106.out 3
                                                  have hfz35_4 := blk_frozen BK106.out 4
                                                  have hfz35_5 := blk_frozen BK106.out 5
                                                  have hcz36_0 : w30.cell? ⟨gb108, 0, none⟩ = some (.int .i64 0) := (blk_cell BK108.out 0).trans rfl
                                                  have hcz36_1 : w30.cell? ⟨gb108, 1, none⟩ = some (.int .i64 0) := (blk_cell BK108.out 1).trans rfl
                                                  have hcz36_2 : w30.cell? ⟨gb108, 2, none⟩ = some (.bool false) := (blk_cell BK108.out 2).trans rfl
                                                  have hcz36_3 : w30.cell? ⟨gb108, 3, none⟩ = some (.int .i64 0) := (blk_cell BK108.out 3).trans rfl
                                                  have hcz36_4 : w30.cell? ⟨gb108, 4, none⟩ = some (.int .i64 0) := (blk_cell BK108.out 4).trans rfl
                                                  have hcz36_5 : w30.cell? ⟨gb108, 5, none⟩ = some (.string (⟨#[]⟩ : ByteArray)) := (blk_cell BK108.out 5).trans rfl
                                                  have hfz36_0 := blk_frozen BK108.out 0
                                                  have hfz36_1 := blk_frozen BK108.out 1
                                                  have hfz36_2 := blk_frozen BK108.out 2
                                                  have hfz36_3 := blk_frozen BK108.out 3
                                                  have hfz36_4 := blk_frozen BK108.out 4
                                                  have hfz36_5 := blk_frozen BK108.out 5
                                                  go_wp2
                                                  repeat (go_quiet (fail); try go_wp2)
                                                  go_meet
                                                  case rel => exact ⟨_, (true), (by first | rfl | (simp; done) | (simp [*]; done)), H', ⟨by have := HK1.out; have := HK2.out; have := HK3.out; have := HK4.out; first | omega | exact Nat.le_refl _⟩, ⟨by (try simp only [hl6_1]); (try simp only [hl6_2]); (try simp only [hl6_3]); (try simp only [hl6_4]); (with_reducible repeat (first | apply Kd.R_alloc | apply Kd.R_drewN | apply Kd.R_drew)); exact Kd.R_mono (Kd.R_far (p := ⟨gb108, 5, none⟩) (Kd.R_far (p := ⟨gb108, 4, none⟩) (Kd.R_far (p := ⟨gb108, 3, none⟩) (Kd.R_far (p := ⟨gb108, 2, none⟩) (Kd.R_far (p := ⟨gb108, 1, none⟩) (Kd.R_far (p := ⟨gb108, 0, none⟩) (Kd.R_types HO_6.out BK108.out (by decide)) (fun _ hk => hk.2) (.int .i64 ((rd_T93 l1 x48_4).f0))) (fun _ hk => hk.2) (.int .i64 ((rd_T93 l1 x48_4).f1))) (fun _ hk => hk.2) (.bool ((rd_T93 l1 x48_4).f2))) (fun _ hk => hk.2) (.int .i64 ((rd_T93 l1 x48_4).f3.f0))) (fun _ hk => hk.2) (.int .i64 ((rd_T93 l1 x48_4).f3.f1))) (fun _ hk => hk.2) (.string ((rd_T93 l1 x48_4).f3.f2))) (fun _ hk => trivial)⟩, ⟨by (try simp only [hl6_1]); (try simp only [hl6_2]); (try simp only [hl6_3]); (try simp only [hl6_4]); (with_reducible repeat (first | refine blk_drewN ?_ _ | refine blk_drew ?_ | refine blk_alloc ?_ _)); refine blk_far ?_ NB106_108.out _; (with_reducible repeat (first | refine blk_drewN ?_ _ | refine blk_drew ?_ | refine blk_alloc ?_ _)); refine blk_far ?_ NB106_108.out _; (with_reducible repeat (first | refine blk_drewN ?_ _ | refine blk_drew ?_ | refine blk_alloc ?_ _)); refine blk_far ?_ NB106_108.out _; (with_reducible repeat (first | refine blk_drewN ?_ _ | refine blk_drew ?_ | refine blk_alloc ?_ _)); refine blk_far ?_ NB106_108.out _; (with_reducible repeat (first | refine blk_drewN ?_ _ | refine blk_drew ?_ | refine blk_alloc ?_ _)); refine blk_far ?_ NB106_108.out _; (with_reducible repeat (first | refine blk_drewN ?_ _ | refine blk_drew ?_ | refine blk_alloc ?_ _)); refine blk_far ?_ NB106_108.out _; (with_reducible repeat (first | refine blk_drewN ?_ _ | refine blk_drew ?_ | refine blk_alloc ?_ _)); exact BK106.out⟩, ⟨by (try simp only [hl6_1]); (try simp only [hl6_2]); (try simp only [hl6_3]); (try simp only [hl6_4]); (with_reducible repeat (first | refine blk_drewN ?_ _ | refine blk_drew ?_ | refine blk_alloc ?_ _)); refine blk_put (cs := #[.int .i64 ((rd_T93 l1 x48_4).f0), .int .i64 ((rd_T93 l1 x48_4).f1), .bool ((rd_T93 l1 x48_4).f2), .int .i64 ((rd_T93 l1 x48_4).f3.f0), .int .i64 ((rd_T93 l1 x48_4).f3.f1), .string (⟨#[]⟩ : ByteArray)]) ?_ 5 _ rfl; (with_reducible repeat (first | refine blk_drewN ?_ _ | refine blk_drew ?_ | refine blk_alloc ?_ _)); refine blk_put (cs := #[.int .i64 ((rd_T93 l1 x48_4).f0), .int .i64 ((rd_T93 l1 x48_4).f1), .bool ((rd_T93 l1 x48_4).f2), .int .i64 ((rd_T93 l1 x48_4).f3.f0), .int .i64 0, .string (⟨#[]⟩ : ByteArray)]) ?_ 4 _ rfl; (with_reducible repeat (first | refine blk_drewN ?_ _ | refine blk_drew ?_ | refine blk_alloc ?_ _)); refine blk_put (cs := #[.int .i64 ((rd_T93 l1 x48_4).f0), .int .i64 ((rd_T93 l1 x48_4).f1), .bool ((rd_T93 l1 x48_4).f2), .int .i64 0, .int .i64 0, .string (⟨#[]⟩ : ByteArray)]) ?_ 3 _ rfl; (with_reducible repeat (first | refine blk_drewN ?_ _ | refine blk_drew ?_ | refine blk_alloc ?_ _)); refine blk_put (cs := #[.int .i64 ((rd_T93 l1 x48_4).f0), .int .i64 ((rd_T93 l1 x48_4).f1), .bool false, .int .i64 0, .int .i64 0, .string (⟨#[]⟩ : ByteArray)]) ?_ 2 _ rfl; (with_reducible repeat (first | refine blk_drewN ?_ _ | refine blk_drew ?_ | refine blk_alloc ?_ _)); refine blk_put (cs := #[.int .i64 ((rd_T93 l1 x48_4).f0), .int .i64 0, .bool false, .int .i64 0, .int .i64 0, .string (⟨#[]⟩ : ByteArray)]) ?_ 1 _ rfl; (with_reducible repeat (first | refine blk_drewN ?_ _ | refine blk_drew ?_ | refine blk_alloc ?_ _)); refine blk_put (cs := #[.int .i64 0, .int .i64 0, .bool false, .int .i64 0, .int .i64 0, .string (⟨#[]⟩ : ByteArray)]) ?_ 0 _ rfl; (with_reducible repeat (first | refine blk_drewN ?_ _ | refine blk_drew ?_ | refine blk_alloc ?_ _)); exact BK108.out⟩, ⟨by repeat (first | (with_reducible first | exact HB.out | apply below_alloc | apply pw_below_drewN | apply below_drew1 | refine below_set ?_ GE106.out | refine below_set ?_ GE108.out) | exact HB.out)⟩⟩
                                                · rw [if_neg c33] at H
                                                  have c33b0 : decide (((rd_T93 l0 x41_3).f1) < ((rd_T93 l1 x48_4).f0)) = false := decide_eq_false c33
                                                  clear c33
                                                  (first | rw [c33b0] | (simp only [i64_w, i32_w]; rw [c33b0]) | skip)
                                                  by_cases c37 : ((rd_T93 l1 x48_4).f1) < ((rd_T93 l0 x41_3).f0)
                                                  · rw [if_pos c37] at H
                                                    have c37b0 : decide (((rd_T93 l1 x48_4).f1) < ((rd_T93 l0 x41_3).f0)) = true := decide_eq_true c37
                                                    clear c37
                                                    have H' := Aside0.mk H
                                                    clear H
                                                    have hnb38 := NB106_108.out
                                                    have hnc38 := NB108_106.out
                                                    have hcz39_0 : w30.cell? ⟨gb106, 0, none⟩ = some (.int .i64 ((rd_T93 l0 x41_3).f0)) := (blk_cell BK106.out 0).trans rfl
                                                    have hcz39_1 : w30.cell? ⟨gb106, 1, none⟩ = some (.int .i64 ((rd_T93 l0 x41_3).f1)) := (blk_cell BK106.out 1).trans rfl
                                                    have hcz39_2 : w30.cell? ⟨gb106, 2, none⟩ = some (.bool ((rd_T93 l0 x41_3).f2)) := (blk_cell BK106.out 2).trans rfl
                                                    have hcz39_3 : w30.cell? ⟨gb106, 3, none⟩ = some (.int .i64 ((rd_T93 l0 x41_3).f3.f0)) := (blk_cell BK106.out 3).trans rfl
                                                    have hcz39_4 : w30.cell? ⟨gb106, 4, none⟩ = some (.int .i64 ((rd_T93 l0 x41_3).f3.f1)) := (blk_cell BK106.out 4).trans rfl
                                                    have hcz39_5 : w30.cell? ⟨gb106, 5, none⟩ = some (.string ((rd_T93 l0 x41_3).f3.f2)) := (blk_cell BK106.out 5).trans rfl
                                                    have hfz39_0 := blk_frozen BK106.out 0
                                                    have hfz39_1 := blk_frozen BK106.out 1
                                                    have hfz39_2 := blk_frozen BK106.out 2
                                                    have hfz39_3 := blk_frozen BK106.out 3
                                                    have hfz39_4 := blk_frozen BK106.out 4
                                                    have hfz39_5 := blk_frozen BK106.out 5
                                                    have hcz40_0 : w30.cell? ⟨gb108, 0, none⟩ = some (.int .i64 0) := (blk_cell BK108.out 0).trans rfl
                                                    have hcz40_1 : w30.cell? ⟨gb108, 1, none⟩ = some (.int .i64 0) := (blk_cell BK108.out 1).trans rfl
                                                    have hcz40_2 : w30.cell? ⟨gb108, 2, none⟩ = some (.bool false) := (blk_cell BK108.out 2).trans rfl
                                                    have hcz40_3 : w30.cell? ⟨gb108, 3, none⟩ = some (.int .i64 0) := (blk_cell BK108.out 3).trans rfl
                                                    have hcz40_4 : w30.cell? ⟨gb108, 4, none⟩ = some (.int .i64 0) := (blk_cell BK108.out 4).trans rfl
                                                    have hcz40_5 : w30.cell? ⟨gb108, 5, none⟩ = some (.string (⟨#[]⟩ : ByteArray)) := (blk_cell BK108.out 5).trans rfl
                                                    have hfz40_0 := blk_frozen BK108.out 0
                                                    have hfz40_1 := blk_frozen BK108.out 1
                                                    have hfz40_2 := blk_frozen BK108.out 2
                                                    have hfz40_3 := blk_frozen BK108.out 3
                                                    have hfz40_4 := blk_frozen BK108.out 4
                                                    have hfz40_5 := blk_frozen BK108.out 5
                                                    go_wp2
                                                    repeat (go_quiet (fail); try go_wp2)
                                                    go_meet
                                                    case rel => exact ⟨_, (true), (by first | rfl | (simp; done) | (simp [*]; done)), H', ⟨by have := HK1.out; have := HK2.out; have := HK3.out; have := HK4.out; first | omega | exact Nat.le_refl _⟩, ⟨by (try simp only [hl6_1]); (try simp only [hl6_2]); (try simp only [hl6_3]); (try simp only [hl6_4]); (with_reducible repeat (first | apply Kd.R_alloc | apply Kd.R_drewN | apply Kd.R_drew)); exact Kd.R_mono (Kd.R_far (p := ⟨gb108, 5, none⟩) (Kd.R_far (p := ⟨gb108, 4, none⟩) (Kd.R_far (p := ⟨gb108, 3, none⟩) (Kd.R_far (p := ⟨gb108, 2, none⟩) (Kd.R_far (p := ⟨gb108, 1, none⟩) (Kd.R_far (p := ⟨gb108, 0, none⟩) (Kd.R_types HO_6.out BK108.out (by decide)) (fun _ hk => hk.2) (.int .i64 ((rd_T93 l1 x48_4).f0))) (fun _ hk => hk.2) (.int .i64 ((rd_T93 l1 x48_4).f1))) (fun _ hk => hk.2) (.bool ((rd_T93 l1 x48_4).f2))) (fun _ hk => hk.2) (.int .i64 ((rd_T93 l1 x48_4).f3.f0))) (fun _ hk => hk.2) (.int .i64 ((rd_T93 l1 x48_4).f3.f1))) (fun _ hk => hk.2) (.string ((rd_T93 l1 x48_4).f3.f2))) (fun _ hk => trivial)⟩, ⟨by (try simp only [hl6_1]); (try simp only [hl6_2]); (try simp only [hl6_3]); (try simp only [hl6_4]); (with_reducible repeat (first | refine blk_drewN ?_ _ | refine blk_drew ?_ | refine blk_alloc ?_ _)); refine blk_far ?_ NB106_108.out _; (with_reducible repeat (first | refine blk_drewN ?_ _ | refine blk_drew ?_ | refine blk_alloc ?_ _)); refine blk_far ?_ NB106_108.out _; (with_reducible repeat (first | refine blk_drewN ?_ _ | refine blk_drew ?_ | refine blk_alloc ?_ _)); refine blk_far ?_ NB106_108.out _; (with_reducible repeat (first | refine blk_drewN ?_ _ | refine blk_drew ?_ | refine blk_alloc ?_ _)); refine blk_far ?_ NB106_108.out _; (with_reducible repeat (first | refine blk_drewN ?_ _ | refine blk_drew ?_ | refine blk_alloc ?_ _)); refine blk_far ?_ NB106_108.out _; (with_reducible repeat (first | refine blk_drewN ?_ _ | refine blk_drew ?_ | refine blk_alloc ?_ _)); refine blk_far ?_ NB106_108.out _; (with_reducible repeat (first | refine blk_drewN ?_ _ | refine blk_drew ?_ | refine blk_alloc ?_ _)); exact BK106.out⟩, ⟨by (try simp only [hl6_1]); (try simp only [hl6_2]); (try simp only [hl6_3]); (try simp only [hl6_4]); (with_reducible repeat (first | refine blk_drewN ?_ _ | refine blk_drew ?_ | refine blk_alloc ?_ _)); refine blk_put (cs := #[.int .i64 ((rd_T93 l1 x48_4).f0), .int .i64 ((rd_T93 l1 x48_4).f1), .bool ((rd_T93 l1 x48_4).f2), .int .i64 ((rd_T93 l1 x48_4).f3.f0), .int .i64 ((rd_T93 l1 x48_4).f3.f1), .string (⟨#[]⟩ : ByteArray)]) ?_ 5 _ rfl; (with_reducible repeat (first | refine blk_drewN ?_ _ | refine blk_drew ?_ | refine blk_alloc ?_ _)); refine blk_put (cs := #[.int .i64 ((rd_T93 l1 x48_4).f0), .int .i64 ((rd_T93 l1 x48_4).f1), .bool ((rd_T93 l1 x48_4).f2), .int .i64 ((rd_T93 l1 x48_4).f3.f0), .int .i64 0, .string (⟨#[]⟩ : ByteArray)]) ?_ 4 _ rfl; (with_reducible repeat (first | refine blk_drewN ?_ _ | refine blk_drew ?_ | refine blk_alloc ?_ _)); refine blk_put (cs := #[.int .i64 ((rd_T93 l1 x48_4).f0), .int .i64 ((rd_T93 l1 x48_4).f1), .bool ((rd_T93 l1 x48_4).f2), .int .i64 0, .int .i64 0, .string (⟨#[]⟩ : ByteArray)]) ?_ 3 _ rfl; (with_reducible repeat (first | refine blk_drewN ?_ _ | refine blk_drew ?_ | refine blk_alloc ?_ _)); refine blk_put (cs := #[.int .i64 ((rd_T93 l1 x48_4).f0), .int .i64 ((rd_T93 l1 x48_4).f1), .bool false, .int .i64 0, .int .i64 0, .string (⟨#[]⟩ : ByteArray)]) ?_ 2 _ rfl; (with_reducible repeat (first | refine blk_drewN ?_ _ | refine blk_drew ?_ | refine blk_alloc ?_ _)); refine blk_put (cs := #[.int .i64 ((rd_T93 l1 x48_4).f0), .int .i64 0, .bool false, .int .i64 0, .int .i64 0, .string (⟨#[]⟩ : ByteArray)]) ?_ 1 _ rfl; (with_reducible repeat (first | refine blk_drewN ?_ _ | refine blk_drew ?_ | refine blk_alloc ?_ _)); refine blk_put (cs := #[.int .i64 0, .int .i64 0, .bool false, .int .i64 0, .int .i64 0, .string (⟨#[]⟩ : ByteArray)]) ?_ 0 _ rfl; (with_reducible repeat (first | refine blk_drewN ?_ _ | refine blk_drew ?_ | refine blk_alloc ?_ _)); exact BK108.out⟩, ⟨by repeat (first | (with_reducible first | exact HB.out | apply below_alloc | apply pw_below_drewN | apply below_drew1 | refine below_set ?_ GE106.out | refine below_set ?_ GE108.out) | exact HB.out)⟩⟩
                                                  · rw [if_neg c37] at H
                                                    have c37b0 : decide (((rd_T93 l1 x48_4).f1) < ((rd_T93 l0 x41_3).f0)) = false := decide_eq_false c37
                                                    clear c37
                                                    have H' := Aside0.mk H
                                                    clear H
                                                    have hnb41 := NB106_108.out
                                                    have hnc41 := NB108_106.out
                                                    have hcz42_0 : w30.cell? ⟨gb106, 0, none⟩ = some (.int .i64 ((rd_T93 l0 x41_3).f0)) := (blk_cell BK106.out 0).trans rfl
                                                    have hcz42_1 : w30.cell? ⟨gb106, 1, none⟩ = some (.int .i64 ((rd_T93 l0 x41_3).f1)) := (blk_cell BK106.out 1).trans rfl
                                                    have hcz42_2 : w30.cell? ⟨gb106, 2, none⟩ = some (.bool ((rd_T93 l0 x41_3).f2)) := (blk_cell BK106.out 2).trans rfl
                                                    have hcz42_3 : w30.cell? ⟨gb106, 3, none⟩ = some (.int .i64 ((rd_T93 l0 x41_3).f3.f0)) := (blk_cell BK106.out 3).trans rfl
                                                    have hcz42_4 : w30.cell? ⟨gb106, 4, none⟩ = some (.int .i64 ((rd_T93 l0 x41_3).f3.f1)) := (blk_cell BK106.out 4).trans rfl
                                                    have hcz42_5 : w30.cell? ⟨gb106, 5, none⟩ = some (.string ((rd_T93 l0 x41_3).f3.f2)) := (blk_cell BK106.out 5).trans rfl
                                                    have hfz42_0 := blk_frozen BK106.out 0
                                                    have hfz42_1 := blk_frozen BK106.out 1
                                                    have hfz42_2 := blk_frozen BK106.out 2
                                                    have hfz42_3 := blk_frozen BK106.out 3
                                                    have hfz42_4 := blk_frozen BK106.out 4
                                                    have hfz42_5 := blk_frozen BK106.out 5
                                                    have hcz43_0 : w30.cell? ⟨gb108, 0, none⟩ = some (.int .i64 0) := (blk_cell BK108.out 0).trans rfl
                                                    have hcz43_1 : w30.cell? ⟨gb108, 1, none⟩ = some (.int .i64 0) := (blk_cell BK108.out 1).trans rfl
                                                    have hcz43_2 : w30.cell? ⟨gb108, 2, none⟩ = some (.bool false) := (blk_cell BK108.out 2).trans rfl
                                                    have hcz43_3 : w30.cell? ⟨gb108, 3, none⟩ = some (.int .i64 0) := (blk_cell BK108.out 3).trans rfl
                                                    have hcz43_4 : w30.cell? ⟨gb108, 4, none⟩ = some (.int .i64 0) := (blk_cell BK108.out 4).trans rfl
                                                    have hcz43_5 : w30.cell? ⟨gb108, 5, none⟩ = some (.string (⟨#[]⟩ : ByteArray)) := (blk_cell BK108.out 5).trans rfl
                                                    have hfz43_0 := blk_frozen BK108.out 0
                                                    have hfz43_1 := blk_frozen BK108.out 1
                                                    have hfz43_2 := blk_frozen BK108.out 2
                                                    have hfz43_3 := blk_frozen BK108.out 3
                                                    have hfz43_4 := blk_frozen BK108.out 4
                                                    have hfz43_5 := blk_frozen BK108.out 5
                                                    go_wp2
                                                    repeat (go_quiet (fail); try go_wp2)
                                                    go_meet
                                                    case rel => exact ⟨_, (((rd x6_4 x41_3) == (rd x6_4 (ji26)))), (by first | rfl | (simp; done) | (simp only [← hji26] <;> (first | rfl | simp)) | (simp [*]; done)), H', ⟨by have := HK1.out; have := HK2.out; have := HK3.out; have := HK4.out; first | omega | exact Nat.le_refl _⟩, ⟨by (try simp only [hl6_1]); (try simp only [hl6_2]); (try simp only [hl6_3]); (try simp only [hl6_4]); (with_reducible repeat (first | apply Kd.R_alloc | apply Kd.R_drewN | apply Kd.R_drew)); exact Kd.R_mono (Kd.R_far (p := ⟨gb108, 5, none⟩) (Kd.R_far (p := ⟨gb108, 4, none⟩) (Kd.R_far (p := ⟨gb108, 3, none⟩) (Kd.R_far (p := ⟨gb108, 2, none⟩) (Kd.R_far (p := ⟨gb108, 1, none⟩) (Kd.R_far (p := ⟨gb108, 0, none⟩) (Kd.R_types HO_6.out BK108.out (by decide)) (fun _ hk => hk.2) (.int .i64 ((rd_T93 l1 x48_4).f0))) (fun _ hk => hk.2) (.int .i64 ((rd_T93 l1 x48_4).f1))) (fun _ hk => hk.2) (.bool ((rd_T93 l1 x48_4).f2))) (fun _ hk => hk.2) (.int .i64 ((rd_T93 l1 x48_4).f3.f0))) (fun _ hk => hk.2) (.int .i64 ((rd_T93 l1 x48_4).f3.f1))) (fun _ hk => hk.2) (.string ((rd_T93 l1 x48_4).f3.f2))) (fun _ hk => trivial)⟩, ⟨by (try simp only [hl6_1]); (try simp only [hl6_2]); (try simp only [hl6_3]); (try simp only [hl6_4]); (with_reducible repeat (first | refine blk_drewN ?_ _ | refine blk_drew ?_ | refine blk_alloc ?_ _)); refine blk_far ?_ NB106_108.out _; (with_reducible repeat (first | refine blk_drewN ?_ _ | refine blk_drew ?_ | refine blk_alloc ?_ _)); refine blk_far ?_ NB106_108.out _; (with_reducible repeat (first | refine blk_drewN ?_ _ | refine blk_drew ?_ | refine blk_alloc ?_ _)); refine blk_far ?_ NB106_108.out _; (with_reducible repeat (first | refine blk_drewN ?_ _ | refine blk_drew ?_ | refine blk_alloc ?_ _)); refine blk_far ?_ NB106_108.out _; (with_reducible repeat (first | refine blk_drewN ?_ _ | refine blk_drew ?_ | refine blk_alloc ?_ _)); refine blk_far ?_ NB106_108.out _; (with_reducible repeat (first | refine blk_drewN ?_ _ | refine blk_drew ?_ | refine blk_alloc ?_ _)); refine blk_far ?_ NB106_108.out _; (with_reducible repeat (first | refine blk_drewN ?_ _ | refine blk_drew ?_ | refine blk_alloc ?_ _)); exact BK106.out⟩, ⟨by (try simp only [hl6_1]); (try simp only [hl6_2]); (try simp only [hl6_3]); (try simp only [hl6_4]); (with_reducible repeat (first | refine blk_drewN ?_ _ | refine blk_drew ?_ | refine blk_alloc ?_ _)); refine blk_put (cs := #[.int .i64 ((rd_T93 l1 x48_4).f0), .int .i64 ((rd_T93 l1 x48_4).f1), .bool ((rd_T93 l1 x48_4).f2), .int .i64 ((rd_T93 l1 x48_4).f3.f0), .int .i64 ((rd_T93 l1 x48_4).f3.f1), .string (⟨#[]⟩ : ByteArray)]) ?_ 5 _ rfl; (with_reducible repeat (first | refine blk_drewN ?_ _ | refine blk_drew ?_ | refine blk_alloc ?_ _)); refine blk_put (cs := #[.int .i64 ((rd_T93 l1 x48_4).f0), .int .i64 ((rd_T93 l1 x48_4).f1), .bool ((rd_T93 l1 x48_4).f2), .int .i64 ((rd_T93 l1 x48_4).f3.f0), .int .i64 0, .string (⟨#[]⟩ : ByteArray)]) ?_ 4 _ rfl; (with_reducible repeat (first | refine blk_drewN ?_ _ | refine blk_drew ?_ | refine blk_alloc ?_ _)); refine blk_put (cs := #[.int .i64 ((rd_T93 l1 x48_4).f0), .int .i64 ((rd_T93 l1 x48_4).f1), .bool ((rd_T93 l1 x48_4).f2), .int .i64 0, .int .i64 0, .string (⟨#[]⟩ : ByteArray)]) ?_ 3 _ rfl; (with_reducible repeat (first | refine blk_drewN ?_ _ | refine blk_drew ?_ | refine blk_alloc ?_ _)); refine blk_put (cs := #[.int .i64 ((rd_T93 l1 x48_4).f0), .int .i64 ((rd_T93 l1 x48_4).f1), .bool false, .int .i64 0, .int .i64 0, .string (⟨#[]⟩ : ByteArray)]) ?_ 2 _ rfl; (with_reducible repeat (first | refine blk_drewN ?_ _ | refine blk_drew ?_ | refine blk_alloc ?_ _)); refine blk_put (cs := #[.int .i64 ((rd_T93 l1 x48_4).f0), .int .i64 0, .bool false, .int .i64 0, .int .i64 0, .string (⟨#[]⟩ : ByteArray)]) ?_ 1 _ rfl; (with_reducible repeat (first | refine blk_drewN ?_ _ | refine blk_drew ?_ | refine blk_alloc ?_ _)); refine blk_put (cs := #[.int .i64 0, .int .i64 0, .bool false, .int .i64 0, .int .i64 0, .string (⟨#[]⟩ : ByteArray)]) ?_ 0 _ rfl; (with_reducible repeat (first | refine blk_drewN ?_ _ | refine blk_drew ?_ | refine blk_alloc ?_ _)); exact BK108.out⟩, ⟨by repeat (first | (with_reducible first | exact HB.out | apply below_alloc | apply pw_below_drewN | apply below_drew1 | refine below_set ?_ GE106.out | refine below_set ?_ GE108.out) | exact HB.out)⟩⟩
                                              case rest =>
                                                clear HC29
                                                try clear c1
                                                try clear p1
                                                try clear q1
                                                try clear hx1
                                                try clear c2
                                                try clear p2
                                                try clear c3
                                                try clear c4
                                                try clear c4b0
                                                try clear c4b1
                                                try clear c5
                                                try clear c5b0
                                                try clear c5b1
                                                try clear p6
                                                try clear c9
                                                try clear c9b0
                                                try clear c10
                                                try clear c10b0
                                                try clear p10
                                                try clear q10
                                                try clear hx10
                                                try clear c11
                                                try clear c11b0
                                                try clear p11
                                                try clear q11
                                                try clear hx11
                                                try clear p12
                                                try clear q12
                                                try clear hx12
                                                try clear hf12
                                                try clear c15
                                                try clear c16
                                                try clear c16b0
                                                try clear c17
                                                try clear c17b0
                                                try clear c18
                                                try clear c18b0
                                                try clear c21
                                                try clear c21b0
                                                try clear c22
                                                try clear c22b0
                                                try clear c23
                                                try clear c23b0
                                                try clear c24
                                                try clear c24b0
                                                try clear c25
                                                try clear c25b0
                                                try clear c27
                                                try clear c27b0
                                                try clear c28
                                                try clear c28b0
                                                try clear c31
                                                try clear c33
                                                try clear c33b0
                                                try clear c34
                                                try clear c37
                                                try clear c37b0
                                                try clear c38
                                                try clear c41
                                                try clear hcz20_0
                                                try clear hcz20_1
                                                try clear hcz20_2
                                                try clear hcz20_3
                                                try clear hcz20_4
                                                try clear hcz20_5
                                                try clear hcz32_0
                                                try clear hcz32_1
                                                try clear hcz32_2
                                                try clear hcz32_3
                                                try clear hcz32_4
                                                try clear hcz32_5
                                                try clear hcz35_0
                                                try clear hcz35_1
                                                try clear hcz35_2
                                                try clear hcz35_3
                                                try clear hcz35_4
                                                try clear hcz35_5
                                                try clear hcz36_0
                                                try clear hcz36_1
                                                try clear hcz36_2
                                                try clear hcz36_3
                                                try clear hcz36_4
                                                try clear hcz36_5
                                                try clear hcz39_0
                                                try clear hcz39_1
                                                try clear hcz39_2
                                                try clear hcz39_3
                                                try clear hcz39_4
                                                try clear hcz39_5
                                                try clear hcz40_0
                                                try clear hcz40_1
                                                try clear hcz40_2
                                                try clear hcz40_3
                                                try clear hcz40_4
                                                try clear hcz40_5
                                                try clear hcz42_0
                                                try clear hcz42_1
                                                try clear hcz42_2
                                                try clear hcz42_3
                                                try clear hcz42_4
                                                try clear hcz42_5
                                                try clear hcz43_0
                                                try clear hcz43_1
                                                try clear hcz43_2
                                                try clear hcz43_3
                                                try clear hcz43_4
                                                try clear hcz43_5
                                                try clear hfz20_0
                                                try clear hfz20_1
                                                try clear hfz20_2
                                                try clear hfz20_3
                                                try clear hfz20_4
                                                try clear hfz20_5
                                                try clear hfz32_0
                                                try clear hfz32_1
                                                try clear hfz32_2
                                                try clear hfz32_3
                                                try clear hfz32_4
                                                try clear hfz32_5
                                                try clear hfz35_0
                                                try clear hfz35_1
                                                try clear hfz35_2
                                                try clear hfz35_3
                                                try clear hfz35_4
                                                try clear hfz35_5
                                                try clear hfz36_0
                                                try clear hfz36_1
                                                try clear hfz36_2
                                                try clear hfz36_3
                                                try clear hfz36_4
                                                try clear hfz36_5
                                                try clear hfz39_0
                                                try clear hfz39_1
                                                try clear hfz39_2
                                                try clear hfz39_3
                                                try clear hfz39_4
                                                try clear hfz39_5
                                                try clear hfz40_0
                                                try clear hfz40_1
                                                try clear hfz40_2
                                                try clear hfz40_3
                                                try clear hfz40_4
                                                try clear hfz40_5
                                                try clear hfz42_0
                                                try clear hfz42_1
                                                try clear hfz42_2
                                                try clear hfz42_3
                                                try clear hfz42_4
                                                try clear hfz42_5
                                                try clear hfz43_0
                                                try clear hfz43_1
                                                try clear hfz43_2
                                                try clear hfz43_3
                                                try clear hfz43_4
                                                try clear hfz43_5
                                                try clear hx105_0
                                                try clear hx105_1
                                                try clear hx105_2
                                                try clear hx105_3
                                                try clear hx105_4
                                                try clear hx105_5
                                                try clear hx107_0
                                                try clear hx107_1
                                                try clear hx107_2
                                                try clear hx107_3
                                                try clear hx107_4
                                                try clear hx107_5
                                                try clear hx109_0
                                                try clear hx110_0
                                                try clear hx12_0
                                                try clear p1
                                                try clear p10
                                                try clear p105
                                                try clear p107
                                                try clear p109
                                                try clear p110
                                                try clear p12
                                                try clear p2
                                                try clear p6
                                                try clear q1
                                                try clear q10
                                                try clear q105
                                                try clear q107
                                                try clear q109
                                                try clear q110
                                                try clear q12
                                                obtain ⟨kq, x80_28, rfl, HA, HJ28, HO_6, BK106, BK108, HB⟩ := hcut
                                                cases kq with
                                                | zero => exact absurd HA.out (by simp [rope_groupsV.j4])
                                                | succ kj28 =>
                                                  have H := HA.out
                                                  clear HA
                                                  simp only [rope_groupsV.j4] at H
                                                  by_cases c44 : x80_28 = true
                                                  · subst c44
                                                    have H1 : (rope_groupsV.l3 kj28 l0 l1 l2 x6_4 x8_4 x41_3 l0 (l0.length : Int) x41_3 l1 (l1.length : Int) (wrap64 (x48_4 + 1)) ((rd_T93 l0 x41_3).f0) ((rd_T93 l0 x41_3).f1) ((rd_T93 l0 x41_3).f2) ((rd_T93 l0 x41_3).f3.f0) ((rd_T93 l0 x41_3).f3.f1) ((rd_T93 l0 x41_3).f3.f2)) = some r := by rw [if_pos rfl] at H; exact H
                                                    clear H
                                                    have H := H1
                                                    clear H1
                                                    have H' := Aside0.mk H
                                                    clear H
                                                    go_wp2
                                                    repeat (go_quiet (fail); try go_wp2)
                                                    (try simp only [← hl6_4])
                                                    go_roundg kj28
                                                    case measure => have := HK1.out; have := HK2.out; have := HK3.out; have := HK4.out; have := HJ28.out; omega
                                                    case rel => exact ⟨(x6_4), (x8_4), (wrap64 (x48_4 + 1)), (by first | rfl | (simp; done) | (simp [*]; done)), (by first | rfl | (simp; done) | (simp [*]; done)), H', ⟨by have := HK1.out; have := HK2.out; have := HK3.out; have := HK4.out; have := HJ28.out; omega⟩, ⟨by (try simp only [hl6_1]); (try simp only [hl6_2]); (try simp only [hl6_3]); (try simp only [hl6_4]); (with_reducible repeat (first | apply Kd.R_alloc | apply Kd.R_drewN | apply Kd.R_drew)); exact HO_6.out⟩, ⟨by (try simp only [hl6_1]); (try simp only [hl6_2]); (try simp only [hl6_3]); (try simp only [hl6_4]); (with_reducible repeat (first | refine blk_drewN ?_ _ | refine blk_drew ?_ | refine blk_alloc ?_ _)); exact BK106.out⟩, ⟨by repeat (first | (with_reducible first | exact HB.out | apply below_alloc | apply pw_below_drewN | apply below_drew1 | refine below_set ?_ GE106.out | refine below_set ?_ GE108.out) | exact HB.out)⟩⟩
                                                  · replace c44 := Bool.eq_false_iff.mpr c44
                                                    subst c44
                                                    have H1 : (rope_groupsV.l4 kj28 l0 l1 l2 x6_4 x41_3 (rd x6_4 x41_3) (rd x6_4 (ji26)) l0 (l0.length : Int) x41_3 l1 (l1.length : Int) x48_4 (x6_4.length : Int) 0 ((rd_T93 l0 x41_3).f0) ((rd_T93 l0 x41_3).f1) ((rd_T93 l0 x41_3).f2) ((rd_T93 l0 x41_3).f3.f0) ((rd_T93 l0 x41_3).f3.f1) ((rd_T93 l0 x41_3).f3.f2)) = some r := by rw [if_neg (show ¬ (false = true) by decide)] at H; exact H
                                                    clear H
                                                    have H := H1
                                                    clear H1
                                                    have H' := Aside0.mk H
                                                    clear H
                                                    go_wp2
                                                    repeat (go_quiet (fail); try go_wp2)
                                                    go_loopg [83] kj28 (fun kq v83 w' => ∃ (x6_6 : List Int) (x83_6 : Int), v83 = .int .i64 x83_6 ∧ Aside0 (rope_groupsV.l4 kq l0 l1 l2 x6_6 x41_3 (rd x6_4 x41_3) (rd x6_4 (ji26)) l0 (l0.length : Int) x41_3 l1 (l1.length : Int) x48_4 (x6_4.length : Int) x83_6 ((rd_T93 l0 x41_3).f0) ((rd_T93 l0 x41_3).f1) ((rd_T93 l0 x41_3).f2) ((rd_T93 l0 x41_3).f3.f0) ((rd_T93 l0 x41_3).f3.f1) ((rd_T93 l0 x41_3).f3.f2) = some r) ∧ Aside0 (kq ≤ kj28) ∧ Aside0 (Kd.R (Kd.int .i64) 3 w' w.heap.size (fun _ => True) (.slice (some ad109) x6_4.length co8) x6_6) ∧ Aside0 (w'.heap[gb106]? = some (.cells #[.int .i64 ((rd_T93 l0 x41_3).f0), .int .i64 ((rd_T93 l0 x41_3).f1), .bool ((rd_T93 l0 x41_3).f2), .int .i64 ((rd_T93 l0 x41_3).f3.f0), .int .i64 ((rd_T93 l0 x41_3).f3.f1), .string ((rd_T93 l0 x41_3).f3.f2)] 93 (0, 0))) ∧ Aside0 (w'.heap[gb108]? = some (.cells #[.int .i64 ((rd_T93 l1 x48_4).f0), .int .i64 ((rd_T93 l1 x48_4).f1), .bool ((rd_T93 l1 x48_4).f2), .int .i64 ((rd_T93 l1 x48_4).f3.f0), .int .i64 ((rd_T93 l1 x48_4).f3.f1), .string ((rd_T93 l1 x48_4).f3.f2)] 93 (0, 0))) ∧ Aside0 (Below w.heap.size w w'))
                                                    case atStart => exact ⟨(x6_4), (0), (by first | rfl | (simp; done) | (simp [*]; done)), H', ⟨Nat.le_refl _⟩, ⟨by (try simp only [hl6_1]); (try simp only [hl6_2]); (try simp only [hl6_3]); (try simp only [hl6_4]); (with_reducible repeat (first | apply Kd.R_alloc | apply Kd.R_drewN | apply Kd.R_drew)); exact HO_6.out⟩, ⟨by (try simp only [hl6_1]); (try simp only [hl6_2]); (try simp only [hl6_3]); (try simp only [hl6_4]); (with_reducible repeat (first | refine blk_drewN ?_ _ | refine blk_drew ?_ | refine blk_alloc ?_ _)); exact BK106.out⟩, ⟨by (try simp only [hl6_1]); (try simp only [hl6_2]); (try simp only [hl6_3]); (try simp only [hl6_4]); (with_reducible repeat (first | refine blk_drewN ?_ _ | refine blk_drew ?_ | refine blk_alloc ?_ _)); exact BK108.out⟩, ⟨by repeat (first | (with_reducible first | exact HB.out | apply below_alloc | apply pw_below_drewN | apply below_drew1 | refine below_set ?_ GE106.out | refine below_set ?_ GE108.out) | exact HB.out)⟩⟩
                                                    case round =>
                                                      clear H'
                                                      try clear c1
                                                      try clear p1
                                                      try clear q1
                                                      try clear hx1
                                                      try clear c2
                                                      try clear p2
                                                      try clear c3
                                                      try clear c4
                                                      try clear c4b0
                                                      try clear c4b1
                                                      try clear c5
                                                      try clear c5b0
                                                      try clear c5b1
                                                      try clear p6
                                                      try clear c9
                                                      try clear c9b0
                                                      try clear c10
                                                      try clear c10b0
                                                      try clear p10
                                                      try clear q10
                                                      try clear hx10
                                                      try clear c11
                                                      try clear c11b0
                                                      try clear p11
                                                      try clear q11
                                                      try clear hx11
                                                      try clear p12
                                                      try clear q12
                                                      try clear hx12
                                                      try clear hf12
                                                      try clear c15
                                                      try clear c16
                                                      try clear c16b0
                                                      try clear c17
                                                      try clear c17b0
                                                      try clear c18
                                                      try clear c18b0
                                                      try clear c21
                                                      try clear c21b0
                                                      try clear c22
                                                      try clear c22b0
                                                      try clear c23
                                                      try clear c23b0
                                                      try clear c24
                                                      try clear c24b0
                                                      try clear c25
                                                      try clear c25b0
                                                      try clear c27
                                                      try clear c27b0
                                                      try clear c28
                                                      try clear c28b0
                                                      try clear c31
                                                      try clear c33
                                                      try clear c33b0
                                                      try clear c34
                                                      try clear c37
                                                      try clear c37b0
                                                      try clear c38
                                                      try clear c41
                                                      try clear c44
                                                      try clear hcz20_0
                                                      try clear hcz20_1
                                                      try clear hcz20_2
                                                      try clear hcz20_3
                                                      try clear hcz20_4
                                                      try clear hcz20_5
                                                      try clear hcz32_0
                                                      try clear hcz32_1
                                                      try clear hcz32_2
                                                      try clear hcz32_3
                                                      try clear hcz32_4
                                                      try clear hcz32_5
                                                      try clear hcz35_0
                                                      try clear hcz35_1
                                                      try clear hcz35_2
                                                      try clear hcz35_3
                                                      try clear hcz35_4
                                                      try clear hcz35_5
                                                      try clear hcz36_0
                                                      try clear hcz36_1
                                                      try clear hcz36_2
                                                      try clear hcz36_3
                                                      try clear hcz36_4
                                                      try clear hcz36_5
                                                      try clear hcz39_0
                                                      try clear hcz39_1
                                                      try clear hcz39_2
                                                      try clear hcz39_3
                                                      try clear hcz39_4
                                                      try clear hcz39_5
                                                      try clear hcz40_0
                                                      try clear hcz40_1
                                                      try clear hcz40_2
                                                      try clear hcz40_3
                                                      try clear hcz40_4
                                                      try clear hcz40_5
                                                      try clear hcz42_0
                                                      try clear hcz42_1
                                                      try clear hcz42_2
                                                      try clear hcz42_3
                                                      try clear hcz42_4
                                                      try clear hcz42_5
                                                      try clear hcz43_0
                                                      try clear hcz43_1
                                                      try clear hcz43_2
                                                      try clear hcz43_3
                                                      try clear hcz43_4
                                                      try clear hcz43_5
                                                      try clear hfz20_0
                                                      try clear hfz20_1
                                                      try clear hfz20_2
                                                      try clear hfz20_3
                                                      try clear hfz20_4
                                                      try clear hfz20_5
                                                      try clear hfz32_0
                                                      try clear hfz32_1
                                                      try clear hfz32_2
                                                      try clear hfz32_3
                                                      try clear hfz32_4
                                                      try clear hfz32_5
                                                      try clear hfz35_0
                                                      try clear hfz35_1
                                                      try clear hfz35_2
                                                      try clear hfz35_3
                                                      try clear hfz35_4
                                                      try clear hfz35_5
                                                      try clear hfz36_0
                                                      try clear hfz36_1
                                                      try clear hfz36_2
                                                      try clear hfz36_3
                                                      try clear hfz36_4
                                                      try clear hfz36_5
                                                      try clear hfz39_0
                                                      try clear hfz39_1
                                                      try clear hfz39_2
                                                      try clear hfz39_3
                                                      try clear hfz39_4
                                                      try clear hfz39_5
                                                      try clear hfz40_0
                                                      try clear hfz40_1
                                                      try clear hfz40_2
                                                      try clear hfz40_3
                                                      try clear hfz40_4
                                                      try clear hfz40_5
                                                      try clear hfz42_0
                                                      try clear hfz42_1
                                                      try clear hfz42_2
                                                      try clear hfz42_3
                                                      try clear hfz42_4
                                                      try clear hfz42_5
                                                      try clear hfz43_0
                                                      try clear hfz43_1
                                                      try clear hfz43_2
                                                      try clear hfz43_3
                                                      try clear hfz43_4
                                                      try clear hfz43_5
                                                      try clear hx105_0
                                                      try clear hx105_1
                                                      try clear hx105_2
                                                      try clear hx105_3
                                                      try clear hx105_4
                                                      try clear hx105_5
                                                      try clear hx107_0
                                                      try clear hx107_1
                                                      try clear hx107_2
                                                      try clear hx107_3
                                                      try clear hx107_4
                                                      try clear hx107_5
                                                      try clear hx109_0
                                                      try clear hx110_0
                                                      try clear hx12_0
                                                      try clear p1
                                                      try clear p10
                                                      try clear p105
                                                      try clear p107
                                                      try clear p109
                                                      try clear p11
                                                      try clear p110
                                                      try clear p12
                                                      try clear p2
                                                      try clear p6
                                                      try clear q1
                                                      try clear q10
                                                      try clear q105
                                                      try clear q107
                                                      try clear q109
                                                      try clear q11
                                                      try clear q110
                                                      try clear q12
                                                      obtain ⟨x6_6, x83_6, rfl, HA, HK6, HO_6, BK106, BK108, HB⟩ := hrel
                                                      have hl6_6 := (Kd.R_reads' HO_6.out).1
                                                      rw [hl6_6] at HO_6
                                                      (try simp only [hl6_6])
                                                      (try simp only [hl6_6] at BK106)
                                                      (try simp only [hl6_6] at BK108)
                                                      cases gk with
                                                      | zero => exact absurd HA.out (by simp [rope_groupsV.l4])
                                                      | succ k6 =>
                                                        have H := HA.out
                                                        clear HA
                                                        simp only [rope_groupsV.l4] at H
                                                        by_cases c45 : x83_6 < (x6_4.length : Int)
                                                        · rw [if_pos c45] at H
                                                          have c45b0 : decide (x83_6 < (x6_4.length : Int)) = true := decide_eq_true c45
                                                          clear c45
                                                          by_cases c46 : 0 ≤ x83_6
                                                          · rw [if_pos c46] at H
                                                            have c46b0 : decide (0 ≤ x83_6) = true := decide_eq_true c46
                                                            clear c46
                                                            by_cases c47 : x83_6 < (x6_6.length : Int)
                                                            · rw [if_pos c47] at H
                                                              have c47b0 : decide (x83_6 < (x6_6.length : Int)) = true := decide_eq_true c47
                                                              clear c47
                                                              obtain ⟨ji48, hji48⟩ : ∃ j_ : Int, (mx (rd x6_4 x41_3) (rd x6_4 (ji26))) = j_ := ⟨_, rfl⟩
                                                              replace H : (if (rd x6_6 x83_6) = (ji48) then (rope_groupsV.l4 k6 l0 l1 l2 (x6_6.set (x83_6 : Int).toNat (mn (rd x6_4 x41_3) (rd x6_4 (ji26)))) x41_3 (rd x6_4 x41_3) (rd x6_4 (ji26)) l0 (l0.length : Int) x41_3 l1 (l1.length : Int) x48_4 (x6_4.length : Int) (wrap64 (x83_6 + 1)) ((rd_T93 l0 x41_3).f0) ((rd_T93 l0 x41_3).f1) ((rd_T93 l0 x41_3).f2) ((rd_T93 l0 x41_3).f3.f0) ((rd_T93 l0 x41_3).f3.f1) ((rd_T93 l0 x41_3).f3.f2)) else (rope_groupsV.l4 k6 l0 l1 l2 x6_6 x41_3 (rd x6_4 x41_3) (rd x6_4 (ji26)) l0 (l0.length : Int) x41_3 l1 (l1.length : Int) x48_4 (x6_4.length : Int) (wrap64 (x83_6 + 1)) ((rd_T93 l0 x41_3).f0) ((rd_T93 l0 x41_3).f1) ((rd_T93 l0 x41_3).f2) ((rd_T93 l0 x41_3).f3.f0) ((rd_T93 l0 x41_3).f3.f1) ((rd_T93 l0 x41_3).f3.f2))) = some r := by first | (rw [hji48] at H; exact H) | (simp only [hji48] at H ⊢; exact H)
                                                              have hji48_ : (if (rd x6_4 x41_3) < (rd x6_4 (ji26)) then (rd x6_4 (ji26)) else (rd x6_4 x41_3)) = ji48 := hji48
                                                              by_cases c49 : (rd x6_6 x83_6) = (ji48)
                                                              · rw [if_pos c49] at H
                                                                have c49b0 : ((rd x6_6 x83_6) == (ji48)) = true := beq_iff_eq.mpr c49
                                                                have c49b1 : ((rd x6_6 x83_6) != (ji48)) = false := bne_eq_false_iff_eq.mpr c49
                                                                clear c49
                                                                obtain ⟨ji50, hji50⟩ : ∃ j_ : Int, (mn (rd x6_4 x41_3) (rd x6_4 (ji26))) = j_ := ⟨_, rfl⟩
                                                                replace H : (rope_groupsV.l4 k6 l0 l1 l2 (x6_6.set (x83_6 : Int).toNat (ji50)) x41_3 (rd x6_4 x41_3) (rd x6_4 (ji26)) l0 (l0.length : Int) x41_3 l1 (l1.length : Int) x48_4 (x6_4.length : Int) (wrap64 (x83_6 + 1)) ((rd_T93 l0 x41_3).f0) ((rd_T93 l0 x41_3).f1) ((rd_T93 l0 x41_3).f2) ((rd_T93 l0 x41_3).f3.f0) ((rd_T93 l0 x41_3).f3.f1) ((rd_T93 l0 x41_3).f3.f2)) = some r := by first | (rw [hji50] at H; exact H) | (simp only [hji50] at H ⊢; exact H)
                                                                have hji50_ : (if (rd x6_4 (ji26)) < (rd x6_4 x41_3) then (rd x6_4 (ji26)) else (rd x6_4 x41_3)) = ji50 := hji50
                                                                obtain ⟨y112, hy112⟩ : ∃ y_ : List Int, y_ = (x6_6.set (x83_6 : Int).toNat (ji50)) := ⟨_, rfl⟩
                                                                replace H : (rope_groupsV.l4 k6 l0 l1 l2 y112 x41_3 (rd x6_4 x41_3) (rd x6_4 (ji26)) l0 (l0.length : Int) x41_3 l1 (l1.length : Int) x48_4 (x6_4.length : Int) (wrap64 (x83_6 + 1)) ((rd_T93 l0 x41_3).f0) ((rd_T93 l0 x41_3).f1) ((rd_T93 l0 x41_3).f2) ((rd_T93 l0 x41_3).f3.f0) ((rd_T93 l0 x41_3).f3.f1) ((rd_T93 l0 x41_3).f3.f2)) = some r := by first | (rw [hy112]; with_reducible exact H) | (have H2_ := (Option.bind_some _ _).symm.trans H; rw [hy112]; with_reducible exact H2_) | (have H2_ := (Option.bind_some _ _).symm.trans H; with_reducible exact H2_) | with_reducible exact H | (rw [hy112]; exact H) | exact H
                                                                have Ny112 := Aside0.mk hy112
                                                                clear hy112
                                                                have H' := Aside0.mk H
                                                                clear H
                                                                have p111 : 0 ≤ (x83_6 : Int) := of_decide_eq_true (by first | (with_reducible assumption) | assumption)
                                                                have q111 : x83_6 < (x6_6.length : Int) := of_decide_eq_true (by first | (with_reducible assumption) | assumption)
                                                                obtain ⟨ad111, e111, hx111_0⟩ := Kd.at_int (Kd.R_reads' HO_6.out).2.2 x83_6 p111 q111
                                                                obtain rfl : ad109 = ad111 := (by injection e111)
                                                                replace p111 := eq_true p111
                                                                replace q111 := eq_true q111
                                                                have p51 : 0 ≤ (x83_6 : Int) := of_decide_eq_true (by first | (with_reducible assumption) | assumption)
                                                                have q51 : (x83_6 : Int) < ((x6_6.length : Int) : Int) := of_decide_eq_true (by first | (with_reducible assumption) | assumption)
                                                                obtain ⟨go51, co51, eo51, gb51, gl51, cl51, HG51⟩ := Kd.R_form HO_6.out (by omega)
                                                                (first | cases eo51 | (injection eo51 with ea_ en_ ec_; (first | subst ea_ | (injection ea_ with ea_; subst ea_)); subst ec_; clear en_))
                                                                have GB51 := Aside0.mk gb51
                                                                have GG51 := Aside0.mk HG51
                                                                clear gb51 gl51 HG51
                                                                (first | simp only [add_plain] at hx109_0 | skip)
                                                                (first | simp only [add_plain] at hx110_0 | skip)
                                                                (first | simp only [add_plain] at hx111_0 | skip)
                                                                obtain ⟨hx51_0, hf51_0⟩ := Kd.R_celln 0 HO_6.out (x83_6 : Int) p51 q51
                                                                replace p51 := eq_true p51
                                                                replace q51 := eq_true q51
                                                                have HP52 := Kd.R_putg HO_6.out (x83_6 : Int) ji50
                                                                go_wp2_with (first | ((with_reducible refine gate_store (t := 3) (p := 99) rfl ?_); (try (rw [drewN_self wr]; generalize hq_ : World.drewN wr _ = wr; have n0_ := Aside0.mk (Kd.R_at hq_ HO_6.out); have n1_ := Aside0.mk (blk_at hq_ BK106.out); have n2_ := Aside0.mk (blk_at hq_ BK108.out); have n3_ := Aside0.mk (below_at hq_ HB.out); clear hq_ HO_6 BK106 BK108 HB; have HO_6 := n0_; have BK106 := n1_; have BK108 := n2_; have HB := n3_; clear n0_ n1_ n2_ n3_; (try (have HP52 := Kd.R_putg HO_6.out (x83_6 : Int) ji50)))); refine store_event (t := 3) (p := 99) (v := ?vo_w53) (w1 := (wr.setCell ⟨go51, (x83_6 : Int).toNat, none⟩ (.int .i64 ji50))) ?hg ?ho ?hn ?hr ?_; (case ho => rfl); (case hg => rfl); (case hn => rfl); (case hr => first | (go_simp; done) | (go_simp; rfl)); intro w53 hw; have hg : wr.grownBy w53 (some go51) := (by rw [hw]; exact HP52.2); have hp_ : Kd.R (Kd.int .i64) 3 w53 w.heap.size (fun _ => True) (.slice (some ⟨go51, 0, none⟩) x6_6.length co8) y112 := (by rw [hw, Ny112.out]; exact HP52.1); clear HP52; have n0_ := Aside0.mk (hp_); have n1_ := Aside0.mk (blk_grown (g := gb106) (o := .cells #[.int .i64 ((rd_T93 l0 x41_3).f0), .int .i64 ((rd_T93 l0 x41_3).f1), .bool ((rd_T93 l0 x41_3).f2), .int .i64 ((rd_T93 l0 x41_3).f3.f0), .int .i64 ((rd_T93 l0 x41_3).f3.f1), .string ((rd_T93 l0 x41_3).f3.f2)] 93 (0, 0)) (by (with_reducible repeat (first | refine blk_drewN ?_ _ | refine blk_drew ?_ | refine blk_alloc ?_ _)); exact BK106.out) hg (Kd.R_ne HO_6.out BK106.out (by decide))); have n2_ := Aside0.mk (blk_grown (g := gb108) (o := .cells #[.int .i64 ((rd_T93 l1 x48_4).f0), .int .i64 ((rd_T93 l1 x48_4).f1), .bool ((rd_T93 l1 x48_4).f2), .int .i64 ((rd_T93 l1 x48_4).f3.f0), .int .i64 ((rd_T93 l1 x48_4).f3.f1), .string ((rd_T93 l1 x48_4).f3.f2)] 93 (0, 0)) (by (with_reducible repeat (first | refine blk_drewN ?_ _ | refine blk_drew ?_ | refine blk_alloc ?_ _)); exact BK108.out) hg (Kd.R_ne HO_6.out BK108.out (by decide))); have n3_ := Aside0.mk ((by rw [hw]; exact below_set (HB.out) GB51.out : Below w.heap.size w w53)); clear HO_6; clear BK106; clear BK108; clear HB; have HO_6 := n0_; have BK106 := n1_; have BK108 := n2_; have HB := n3_; clear n0_ n1_ n2_ n3_; clear hg hw hp_))
                                                                repeat (go_quiet (first | ((with_reducible refine gate_store (t := 3) (p := 99) rfl ?_); (try (rw [drewN_self wr]; generalize hq_ : World.drewN wr _ = wr; have n0_ := Aside0.mk (Kd.R_at hq_ HO_6.out); have n1_ := Aside0.mk (blk_at hq_ BK106.out); have n2_ := Aside0.mk (blk_at hq_ BK108.out); have n3_ := Aside0.mk (below_at hq_ HB.out); clear hq_ HO_6 BK106 BK108 HB; have HO_6 := n0_; have BK106 := n1_; have BK108 := n2_; have HB := n3_; clear n0_ n1_ n2_ n3_; (try (have HP52 := Kd.R_putg HO_6.out (x83_6 : Int) ji50)))); refine store_event (t := 3) (p := 99) (v := ?vo_w53) (w1 := (wr.setCell ⟨go51, (x83_6 : Int).toNat, none⟩ (.int .i64 ji50))) ?hg ?ho ?hn ?hr ?_; (case ho => rfl); (case hg => rfl); (case hn => rfl); (case hr => first | (go_simp; done) | (go_simp; rfl)); intro w53 hw; have hg : wr.grownBy w53 (some go51) := (by rw [hw]; exact HP52.2); have hp_ : Kd.R (Kd.int .i64) 3 w53 w.heap.size (fun _ => True) (.slice (some ⟨go51, 0, none⟩) x6_6.length co8) y112 := (by rw [hw, Ny112.out]; exact HP52.1); clear HP52; have n0_ := Aside0.mk (hp_); have n1_ := Aside0.mk (blk_grown (g := gb106) (o := .cells #[.int .i64 ((rd_T93 l0 x41_3).f0), .int .i64 ((rd_T93 l0 x41_3).f1), .bool ((rd_T93 l0 x41_3).f2), .int .i64 ((rd_T93 l0 x41_3).f3.f0), .int .i64 ((rd_T93 l0 x41_3).f3.f1), .string ((rd_T93 l0 x41_3).f3.f2)] 93 (0, 0)) (by (with_reducible repeat (first | refine blk_drewN ?_ _ | refine blk_drew ?_ | refine blk_alloc ?_ _)); exact BK106.out) hg (Kd.R_ne HO_6.out BK106.out (by decide))); have n2_ := Aside0.mk (blk_grown (g := gb108) (o := .cells #[.int .i64 ((rd_T93 l1 x48_4).f0), .int .i64 ((rd_T93 l1 x48_4).f1), .bool ((rd_T93 l1 x48_4).f2), .int .i64 ((rd_T93 l1 x48_4).f3.f0), .int .i64 ((rd_T93 l1 x48_4).f3.f1), .string ((rd_T93 l1 x48_4).f3.f2)] 93 (0, 0)) (by (with_reducible repeat (first | refine blk_drewN ?_ _ | refine blk_drew ?_ | refine blk_alloc ?_ _)); exact BK108.out) hg (Kd.R_ne HO_6.out BK108.out (by decide))); have n3_ := Aside0.mk ((by rw [hw]; exact below_set (HB.out) GB51.out : Below w.heap.size w w53)); clear HO_6; clear BK106; clear BK108; clear HB; have HO_6 := n0_; have BK106 := n1_; have BK108 := n2_; have HB := n3_; clear n0_ n1_ n2_ n3_; clear hg hw hp_)); try go_wp2_with (first | ((with_reducible refine gate_store (t := 3) (p := 99) rfl ?_); (try (rw [drewN_self wr]; generalize hq_ : World.drewN wr _ = wr; have n0_ := Aside0.mk (Kd.R_at hq_ HO_6.out); have n1_ := Aside0.mk (blk_at hq_ BK106.out); have n2_ := Aside0.mk (blk_at hq_ BK108.out); have n3_ := Aside0.mk (below_at hq_ HB.out); clear hq_ HO_6 BK106 BK108 HB; have HO_6 := n0_; have BK106 := n1_; have BK108 := n2_; have HB := n3_; clear n0_ n1_ n2_ n3_; (try (have HP52 := Kd.R_putg HO_6.out (x83_6 : Int) ji50)))); refine store_event (t := 3) (p := 99) (v := ?vo_w53) (w1 := (wr.setCell ⟨go51, (x83_6 : Int).toNat, none⟩ (.int .i64 ji50))) ?hg ?ho ?hn ?hr ?_; (case ho => rfl); (case hg => rfl); (case hn => rfl); (case hr => first | (go_simp; done) | (go_simp; rfl)); intro w53 hw; have hg : wr.grownBy w53 (some go51) := (by rw [hw]; exact HP52.2); have hp_ : Kd.R (Kd.int .i64) 3 w53 w.heap.size (fun _ => True) (.slice (some ⟨go51, 0, none⟩) x6_6.length co8) y112 := (by rw [hw, Ny112.out]; exact HP52.1); clear HP52; have n0_ := Aside0.mk (hp_); have n1_ := Aside0.mk (blk_grown (g := gb106) (o := .cells #[.int .i64 ((rd_T93 l0 x41_3).f0), .int .i64 ((rd_T93 l0 x41_3).f1), .bool ((rd_T93 l0 x41_3).f2), .int .i64 ((rd_T93 l0 x41_3).f3.f0), .int .i64 ((rd_T93 l0 x41_3).f3.f1), .string ((rd_T93 l0 x41_3).f3.f2)] 93 (0, 0)) (by (with_reducible repeat (first | refine blk_drewN ?_ _ | refine blk_drew ?_ | refine blk_alloc ?_ _)); exact BK106.out) hg (Kd.R_ne HO_6.out BK106.out (by decide))); have n2_ := Aside0.mk (blk_grown (g := gb108) (o := .cells #[.int .i64 ((rd_T93 l1 x48_4).f0), .int .i64 ((rd_T93 l1 x48_4).f1), .bool ((rd_T93 l1 x48_4).f2), .int .i64 ((rd_T93 l1 x48_4).f3.f0), .int .i64 ((rd_T93 l1 x48_4).f3.f1), .string ((rd_T93 l1 x48_4).f3.f2)] 93 (0, 0)) (by (with_reducible repeat (first | refine blk_drewN ?_ _ | refine blk_drew ?_ | refine blk_alloc ?_ _)); exact BK108.out) hg (Kd.R_ne HO_6.out BK108.out (by decide))); have n3_ := Aside0.mk ((by rw [hw]; exact below_set (HB.out) GB51.out : Below w.heap.size w w53)); clear HO_6; clear BK106; clear BK108; clear HB; have HO_6 := n0_; have BK106 := n1_; have BK108 := n2_; have HB := n3_; clear n0_ n1_ n2_ n3_; clear hg hw hp_)))
                                                                (try simp only [← hl6_6])
                                                                go_roundg k6
                                                                case measure => have := HK1.out; have := HK2.out; have := HK3.out; have := HK4.out; have := HJ28.out; have := HK6.out; omega
                                                                case rel => exact ⟨(y112), (wrap64 (x83_6 + 1)), (by first | rfl | (simp; done) | (simp [*]; done)), H', ⟨by have := HK1.out; have := HK2.out; have := HK3.out; have := HK4.out; have := HJ28.out; have := HK6.out; omega⟩, ⟨by (try simp only [hl6_1]); (try simp only [hl6_2]); (try simp only [hl6_3]); (try simp only [hl6_4]); (try simp only [hl6_6]); (with_reducible repeat (first | apply Kd.R_alloc | apply Kd.R_drewN | apply Kd.R_drew)); exact HO_6.out⟩, ⟨by (try simp only [hl6_1]); (try simp only [hl6_2]); (try simp only [hl6_3]); (try simp only [hl6_4]); (try simp only [hl6_6]); (with_reducible repeat (first | refine blk_drewN ?_ _ | refine blk_drew ?_ | refine blk_alloc ?_ _)); exact BK106.out⟩, ⟨by (try simp only [hl6_1]); (try simp only [hl6_2]); (try simp only [hl6_3]); (try simp only [hl6_4]); (try simp only [hl6_6]); (with_reducible repeat (first | refine blk_drewN ?_ _ | refine blk_drew ?_ | refine blk_alloc ?_ _)); exact BK108.out⟩, ⟨by repeat (first | (with_reducible first | exact HB.out | apply below_alloc | apply pw_below_drewN | apply below_drew1 | refine below_set ?_ GE106.out | refine below_set ?_ GE108.out) | exact HB.out)⟩⟩
                                                              · rw [if_neg c49] at H
                                                                have c49b0 : ((rd x6_6 x83_6) == (ji48)) = false := beq_eq_false_iff_ne.mpr c49
                                                                have c49b1 : ((rd x6_6 x83_6) != (ji48)) = true := bne_iff_ne.mpr c49
                                                                have H' := Aside0.mk H
                                                                clear H
                                                                have p111 : 0 ≤ (x83_6 : Int) := of_decide_eq_true (by first | (with_reducible assumption) | assumption)
                                                                have q111 : x83_6 < (x6_6.length : Int) := of_decide_eq_true (by first | (with_reducible assumption) | assumption)
                                                                obtain ⟨ad111, e111, hx111_0⟩ := Kd.at_int (Kd.R_reads' HO_6.out).2.2 x83_6 p111 q111
                                                                obtain rfl : ad109 = ad111 := (by injection e111)
                                                                replace p111 := eq_true p111
                                                                replace q111 := eq_true q111
                                                                go_wp2
                                                                repeat (go_quiet (fail); try go_wp2)
                                                                (try simp only [← hl6_6])
                                                                go_roundg k6
                                                                case measure => have := HK1.out; have := HK2.out; have := HK3.out; have := HK4.out; have := HJ28.out; have := HK6.out; omega
                                                                case rel => exact ⟨(x6_6), (wrap64 (x83_6 + 1)), (by first | rfl | (simp; done) | (simp [*]; done)), H', ⟨by have := HK1.out; have := HK2.out; have := HK3.out; have := HK4.out; have := HJ28.out; have := HK6.out; omega⟩, ⟨by (try simp only [hl6_1]); (try simp only [hl6_2]); (try simp only [hl6_3]); (try simp only [hl6_4]); (try simp only [hl6_6]); (with_reducible repeat (first | apply Kd.R_alloc | apply Kd.R_drewN | apply Kd.R_drew)); exact HO_6.out⟩, ⟨by (try simp only [hl6_1]); (try simp only [hl6_2]); (try simp only [hl6_3]); (try simp only [hl6_4]); (try simp only [hl6_6]); (with_reducible repeat (first | refine blk_drewN ?_ _ | refine blk_drew ?_ | refine blk_alloc ?_ _)); exact BK106.out⟩, ⟨by (try simp only [hl6_1]); (try simp only [hl6_2]); (try simp only [hl6_3]); (try simp only [hl6_4]); (try simp only [hl6_6]); (with_reducible repeat (first | refine blk_drewN ?_ _ | refine blk_drew ?_ | refine blk_alloc ?_ _)); exact BK108.out⟩, ⟨by repeat (first | (with_reducible first | exact HB.out | apply below_alloc | apply pw_below_drewN | apply below_drew1 | refine below_set ?_ GE106.out | refine below_set ?_ GE108.out) | exact HB.out)⟩⟩
                                                            · rw [if_neg c47] at H
                                                              exact absurd H (by simp)
                                                          · rw [if_neg c46] at H
                                                            exact absurd H (by simp)
                                                        · rw [if_neg c45] at H
                                                          have c45b0 : decide (x83_6 < (x6_4.length : Int)) = false := decide_eq_false c45
                                                          rw [hl6_6] at c45b0
                                                          clear c45
                                                          have H' := Aside0.mk H
                                                          clear H
                                                          go_wp2
                                                          repeat (go_quiet (fail); try go_wp2)
                                                          (try simp only [← hl6_4, ← hl6_6])
                                                          go_roundg k6
                                                          case measure => have := HK1.out; have := HK2.out; have := HK3.out; have := HK4.out; have := HJ28.out; have := HK6.out; omega
                                                          case rel => exact ⟨(x6_6), (true), (wrap64 (x48_4 + 1)), (by first | rfl | (simp; done) | (simp [*]; done)), (by first | rfl | (simp; done) | (simp [*]; done)), H', ⟨by have := HK1.out; have := HK2.out; have := HK3.out; have := HK4.out; have := HJ28.out; have := HK6.out; omega⟩, ⟨by (try simp only [hl6_1]); (try simp only [hl6_2]); (try simp only [hl6_3]); (try simp only [hl6_4]); (try simp only [hl6_6]); (with_reducible repeat (first | apply Kd.R_alloc | apply Kd.R_drewN | apply Kd.R_drew)); exact HO_6.out⟩, ⟨by (try simp only [hl6_1]); (try simp only [hl6_2]); (try simp only [hl6_3]); (try simp only [hl6_4]); (try simp only [hl6_6]); (with_reducible repeat (first | refine blk_drewN ?_ _ | refine blk_drew ?_ | refine blk_alloc ?_ _)); exact BK106.out⟩, ⟨by repeat (first | (with_reducible first | exact HB.out | apply below_alloc | apply pw_below_drewN | apply below_drew1 | refine below_set ?_ GE106.out | refine below_set ?_ GE108.out) | exact HB.out)⟩⟩
                                            · rw [if_neg c28] at H
                                              exact absurd H (by simp)
                                          · rw [if_neg c27] at H
                                            exact absurd H (by simp)
                                        · rw [if_neg c25] at H
                                          exact absurd H (by simp)
                                      · rw [if_neg c24] at H
                                        exact absurd H (by simp)
                                    · rw [if_neg c23] at H
                                      exact absurd H (by simp)
                                  · rw [if_neg c22] at H
                                    exact absurd H (by simp)
                                · rw [if_neg c21] at H
                                  have c21b0 : decide (x48_4 < (l1.length : Int)) = false := decide_eq_false c21
                                  clear c21
                                  have H' := Aside0.mk H
                                  clear H
                                  go_wp2
                                  repeat (go_quiet (fail); try go_wp2)
                                  (try simp only [← hl6_3, ← hl6_4])
                                  go_roundg k4
                                  case measure => have := HK1.out; have := HK2.out; have := HK3.out; have := HK4.out; omega
                                  case rel => exact ⟨(x6_4), (x8_4), (wrap64 (x41_3 + 1)), (by first | rfl | (simp; done) | (simp [*]; done)), (by first | rfl | (simp; done) | (simp [*]; done)), H', ⟨by have := HK1.out; have := HK2.out; have := HK3.out; have := HK4.out; omega⟩, ⟨by (try simp only [hl6_1]); (try simp only [hl6_2]); (try simp only [hl6_3]); (try simp only [hl6_4]); (with_reducible repeat (first | apply Kd.R_alloc | apply Kd.R_drewN | apply Kd.R_drew)); exact HO_6.out⟩, ⟨by repeat (first | (with_reducible first | exact HB.out | apply below_alloc | apply pw_below_drewN | apply below_drew1 | refine below_set ?_ GE106.out) | exact HB.out)⟩⟩
                          · rw [if_neg c18] at H
                            exact absurd H (by simp)
                        · rw [if_neg c17] at H
                          exact absurd H (by simp)
                      · rw [if_neg c16] at H
                        have c16b0 : decide (x41_3 < (l0.length : Int)) = false := decide_eq_false c16
                        clear c16
                        have H' := Aside0.mk H
                        clear H
                        go_wp2
                        repeat (go_quiet (fail); try go_wp2)
                        (try simp only [← hl6_2, ← hl6_3])
                        go_roundg k3
                        case measure => have := HK1.out; have := HK2.out; have := HK3.out; omega
                        case rel => exact ⟨(x6_3), (x8_3), (by first | rfl | (simp; done) | (simp [*]; done)), H', ⟨by have := HK1.out; have := HK2.out; have := HK3.out; omega⟩, ⟨by (try simp only [hl6_1]); (try simp only [hl6_2]); (try simp only [hl6_3]); (with_reducible repeat (first | apply Kd.R_alloc | apply Kd.R_drewN | apply Kd.R_drew)); exact HO_6.out⟩, ⟨by repeat (first | (with_reducible first | exact HB.out | apply below_alloc | apply pw_below_drewN | apply below_drew1) | exact HB.out)⟩⟩
                · replace c15 := Bool.eq_false_iff.mpr c15
                  subst c15
                  have H1 : (rope_groupsV.l5 k2 l2 x6_2 ([] : List (List (S93))) (l2.length : Int) 0) = some r := by rw [if_neg (show ¬ (false = true) by decide)] at H; exact H
                  clear H
                  have H := H1
                  clear H1
                  have H' := Aside0.mk H
                  clear H
                  go_wp2
                  repeat (go_quiet (fail); try go_wp2)
                  go_loopg [16, 105] k2 (fun kq v16 v105 w' => ∃ (x16_3 : List (List (S93))) (x105_3 : Int), v105 = .int .i64 x105_3 ∧ Aside0 (rope_groupsV.l5 kq l2 x6_2 x16_3 (l2.length : Int) x105_3 = some r) ∧ Aside0 (kq ≤ k2) ∧ Aside0 (Kd.R (Kd.int .i64) 3 w' w.heap.size (fun _ => True) (.slice Ao8 x6_2.length co8) x6_2) ∧ Aside0 (Kd.S (Kd.slice 93 k93) 91 w' w.heap.size (fun _ => True) v16 x16_3) ∧ Aside0 (Below w.heap.size w w'))
                  case atStart => exact ⟨(([] : List (List (S93)))), (0), (by first | rfl | (simp; done) | (simp [*]; done)), H', ⟨Nat.le_refl _⟩, ⟨by (try simp only [hl6_1]); (try simp only [hl6_2]); (with_reducible repeat (first | apply Kd.R_alloc | apply Kd.R_drewN | apply Kd.R_drew)); exact HO_6.out⟩, ⟨by (try simp only [hl6_1]); (try simp only [hl6_2]); first | exact Kd.S_nil _ _ _ _ _ | exact Kd.N_nil _ _ _ _ _ | exact Kd.V_nil _ _ _ _ _ | exact Kd.Q_nil _ _ _ _ _ | exact Kd.R_nil _ _ _ _ _⟩, ⟨by repeat (first | (with_reducible first | exact HB.out | apply below_alloc | apply pw_below_drewN | apply below_drew1) | exact HB.out)⟩⟩
                  case round =>
                    clear H'
                    try clear c1
                    try clear p1
                    try clear q1
                    try clear hx1
                    try clear c2
                    try clear p2
                    try clear c3
                    try clear c4
                    try clear c4b0
                    try clear c4b1
                    try clear c5
                    try clear c5b0
                    try clear c5b1
                    try clear p5
                    try clear q5
                    try clear hx5
                    try clear hf5
                    try clear p6
                    try clear c9
                    try clear c9b0
                    try clear c10
                    try clear c10b0
                    try clear p10
                    try clear q10
                    try clear hx10
                    try clear c11
                    try clear c11b0
                    try clear p11
                    try clear q11
                    try clear hx11
                    try clear p12
                    try clear q12
                    try clear hx12
                    try clear hf12
                    try clear c15
                    try clear c16
                    try clear c16b0
                    try clear c17
                    try clear c17b0
                    try clear c18
                    try clear c18b0
                    try clear c21
                    try clear c21b0
                    try clear c22
                    try clear c22b0
                    try clear c23
                    try clear c23b0
                    try clear c24
                    try clear c24b0
                    try clear c25
                    try clear c25b0
                    try clear c27
                    try clear c27b0
                    try clear c28
                    try clear c28b0
                    try clear c31
                    try clear c33
                    try clear c33b0
                    try clear c34
                    try clear c37
                    try clear c37b0
                    try clear c38
                    try clear c41
                    try clear c44
                    try clear c45
                    try clear c45b0
                    try clear c46
                    try clear c46b0
                    try clear c47
                    try clear c47b0
                    try clear c49
                    try clear c49b0
                    try clear c49b1
                    try clear p51
                    try clear q51
                    try clear hx51
                    try clear hf51
                    try clear hcz20_0
                    try clear hcz20_1
                    try clear hcz20_2
                    try clear hcz20_3
                    try clear hcz20_4
                    try clear hcz20_5
                    try clear hcz32_0
                    try clear hcz32_1
                    try clear hcz32_2
                    try clear hcz32_3
                    try clear hcz32_4
                    try clear hcz32_5
                    try clear hcz35_0
                    try clear hcz35_1
                    try clear hcz35_2
                    try clear hcz35_3
                    try clear hcz35_4
                    try clear hcz35_5
                    try clear hcz36_0
                    try clear hcz36_1
                    try clear hcz36_2
                    try clear hcz36_3
                    try clear hcz36_4
                    try clear hcz36_5
                    try clear hcz39_0
                    try clear hcz39_1
                    try clear hcz39_2
                    try clear hcz39_3
                    try clear hcz39_4
                    try clear hcz39_5
                    try clear hcz40_0
                    try clear hcz40_1
                    try clear hcz40_2
                    try clear hcz40_3
                    try clear hcz40_4
                    try clear hcz40_5
                    try clear hcz42_0
                    try clear hcz42_1
                    try clear hcz42_2
                    try clear hcz42_3
                    try clear hcz42_4
                    try clear hcz42_5
                    try clear hcz43_0
                    try clear hcz43_1
                    try clear hcz43_2
                    try clear hcz43_3
                    try clear hcz43_4
                    try clear hcz43_5
                    try clear hfz20_0
                    try clear hfz20_1
                    try clear hfz20_2
                    try clear hfz20_3
                    try clear hfz20_4
                    try clear hfz20_5
                    try clear hfz32_0
                    try clear hfz32_1
                    try clear hfz32_2
                    try clear hfz32_3
                    try clear hfz32_4
                    try clear hfz32_5
                    try clear hfz35_0
                    try clear hfz35_1
                    try clear hfz35_2
                    try clear hfz35_3
                    try clear hfz35_4
                    try clear hfz35_5
                    try clear hfz36_0
                    try clear hfz36_1
                    try clear hfz36_2
                    try clear hfz36_3
                    try clear hfz36_4
                    try clear hfz36_5
                    try clear hfz39_0
                    try clear hfz39_1
                    try clear hfz39_2
                    try clear hfz39_3
                    try clear hfz39_4
                    try clear hfz39_5
                    try clear hfz40_0
                    try clear hfz40_1
                    try clear hfz40_2
                    try clear hfz40_3
                    try clear hfz40_4
                    try clear hfz40_5
                    try clear hfz42_0
                    try clear hfz42_1
                    try clear hfz42_2
                    try clear hfz42_3
                    try clear hfz42_4
                    try clear hfz42_5
                    try clear hfz43_0
                    try clear hfz43_1
                    try clear hfz43_2
                    try clear hfz43_3
                    try clear hfz43_4
                    try clear hfz43_5
                    try clear hx105_0
                    try clear hx105_1
                    try clear hx105_2
                    try clear hx105_3
                    try clear hx105_4
                    try clear hx105_5
                    try clear hx107_0
                    try clear hx107_1
                    try clear hx107_2
                    try clear hx107_3
                    try clear hx107_4
                    try clear hx107_5
                    try clear hx109_0
                    try clear hx110_0
                    try clear hx111_0
                    try clear hx12_0
                    try clear hx51_0
                    try clear p1
                    try clear p10
                    try clear p105
                    try clear p107
                    try clear p109
                    try clear p11
                    try clear p110
                    try clear p111
                    try clear p12
                    try clear p2
                    try clear p51
                    try clear p6
                    try clear q1
                    try clear q10
                    try clear q105
                    try clear q107
                    try clear q109
                    try clear q11
                    try clear q110
                    try clear q111
                    try clear q12
                    try clear q51
                    obtain ⟨x16_3, x105_3, rfl, HA, HK3, HO_6, HO_16, HB⟩ := hrel
                    cases gk with
                    | zero => exact absurd HA.out (by simp [rope_groupsV.l5])
                    | succ k3 =>
                      have H := HA.out
                      clear HA
                      simp only [rope_groupsV.l5] at H
                      by_cases c54 : x105_3 < (l2.length : Int)
                      · rw [if_pos c54] at H
                        have c54b0 : decide (x105_3 < (l2.length : Int)) = true := decide_eq_true c54
                        clear c54
                        have H' := Aside0.mk H
                        clear H
                        go_wp2
                        repeat (go_quiet (fail); try go_wp2)
                        go_loopg [18, 110] k3 (fun kq v18 v110 w' => ∃ (x18_4 : List (S93)) (x110_4 : Int), v110 = .int .i64 x110_4 ∧ Aside0 (rope_groupsV.l6 kq l2 x6_2 x16_3 x105_3 x18_4 (l2.length : Int) x105_3 l2 (l2.length : Int) x110_4 = some r) ∧ Aside0 (kq ≤ k3) ∧ Aside0 (Kd.R (Kd.int .i64) 3 w' w.heap.size (fun _ => True) (.slice Ao8 x6_2.length co8) x6_2) ∧ Aside0 (Kd.S (Kd.slice 93 k93) 91 w' w.heap.size (fun k_ => some k_ ≠ (v18 : Value).ownBlock) u16 x16_3) ∧ Aside0 (Kd.R k93 93 w' w.heap.size (fun _ => True) v18 x18_4) ∧ Aside0 (x18_4 = [] → v18 = .slice none 0 0) ∧ Aside0 (Below w.heap.size w w'))
                        case atStart => exact ⟨(([] : List (S93))), (0), (by first | rfl | (simp; done) | (simp [*]; done)), H', ⟨Nat.le_refl _⟩, ⟨by (try simp only [hl6_1]); (try simp only [hl6_2]); (with_reducible repeat (first | apply Kd.R_alloc | apply Kd.R_drewN | apply Kd.R_drew)); exact HO_6.out⟩, ⟨by (try simp only [hl6_1]); (try simp only [hl6_2]); (with_reducible repeat (first | apply Kd.S_alloc | apply Kd.S_drewN | apply Kd.S_drew)); exact Kd.S_mono HO_16.out (fun _ hk => (by simp [Value.ownBlock]))⟩, ⟨by (try simp only [hl6_1]); (try simp only [hl6_2]); first | exact Kd.R_nil _ _ _ _ _ | exact Kd.N_nil _ _ _ _ _ | exact Kd.V_nil _ _ _ _ _ | exact Kd.Q_nil _ _ _ _ _ | exact Kd.S_nil _ _ _ _ _⟩, ⟨fun _ => rfl⟩, ⟨by repeat (first | (with_reducible first | exact HB.out | apply below_alloc | apply pw_below_drewN | apply below_drew1) | exact HB.out)⟩⟩
                        case round =>
                          clear H'
                          try clear c1
                          try clear p1
                          try clear q1
                          try clear hx1
                          try clear c2
                          try clear p2
                          try clear c3
                          try clear c4
                          try clear c4b0
                          try clear c4b1
                          try clear c5
                          try clear c5b0
                          try clear c5b1
                          try clear p5
                          try clear q5
                          try clear hx5
                          try clear hf5
                          try clear p6
                          try clear c9
                          try clear c9b0
                          try clear c10
                          try clear c10b0
                          try clear p10
                          try clear q10
                          try clear hx10
                          try clear c11
                          try clear c11b0
                          try clear p11
                          try clear q11
                          try clear hx11
                          try clear p12
                          try clear q12
                          try clear hx12
                          try clear hf12
                          try clear c15
                          try clear c16
                          try clear c16b0
                          try clear c17
                          try clear c17b0
                          try clear c18
                          try clear c18b0
                          try clear c21
                          try clear c21b0
                          try clear c22
                          try clear c22b0
                          try clear c23
                          try clear c23b0
                          try clear c24
                          try clear c24b0
                          try clear c25
                          try clear c25b0
                          try clear c27
                          try clear c27b0
                          try clear c28
                          try clear c28b0
                          try clear c31
                          try clear c33
                          try clear c33b0
                          try clear c34
                          try clear c37
                          try clear c37b0
                          try clear c38
                          try clear c41
                          try clear c44
                          try clear c45
                          try clear c45b0
                          try clear c46
                          try clear c46b0
                          try clear c47
                          try clear c47b0
                          try clear c49
                          try clear c49b0
                          try clear c49b1
                          try clear p51
                          try clear q51
                          try clear hx51
                          try clear hf51
                          try clear c54
                          try clear c54b0
                          try clear hcz20_0
                          try clear hcz20_1
                          try clear hcz20_2
                          try clear hcz20_3
                          try clear hcz20_4
                          try clear hcz20_5
                          try clear hcz32_0
                          try clear hcz32_1
                          try clear hcz32_2
                          try clear hcz32_3
                          try clear hcz32_4
                          try clear hcz32_5
                          try clear hcz35_0
                          try clear hcz35_1
                          try clear hcz35_2
                          try clear hcz35_3
                          try clear hcz35_4
                          try clear hcz35_5
                          try clear hcz36_0
                          try clear hcz36_1
                          try clear hcz36_2
                          try clear hcz36_3
                          try clear hcz36_4
                          try clear hcz36_5
                          try clear hcz39_0
                          try clear hcz39_1
                          try clear hcz39_2
                          try clear hcz39_3
                          try clear hcz39_4
                          try clear hcz39_5
                          try clear hcz40_0
                          try clear hcz40_1
                          try clear hcz40_2
                          try clear hcz40_3
                          try clear hcz40_4
                          try clear hcz40_5
                          try clear hcz42_0
                          try clear hcz42_1
                          try clear hcz42_2
                          try clear hcz42_3
                          try clear hcz42_4
                          try clear hcz42_5
                          try clear hcz43_0
                          try clear hcz43_1
                          try clear hcz43_2
                          try clear hcz43_3
                          try clear hcz43_4
                          try clear hcz43_5
                          try clear hfz20_0
                          try clear hfz20_1
                          try clear hfz20_2
                          try clear hfz20_3
                          try clear hfz20_4
                          try clear hfz20_5
                          try clear hfz32_0
                          try clear hfz32_1
                          try clear hfz32_2
                          try clear hfz32_3
                          try clear hfz32_4
                          try clear hfz32_5
                          try clear hfz35_0
                          try clear hfz35_1
                          try clear hfz35_2
                          try clear hfz35_3
                          try clear hfz35_4
                          try clear hfz35_5
                          try clear hfz36_0
                          try clear hfz36_1
                          try clear hfz36_2
                          try clear hfz36_3
                          try clear hfz36_4
                          try clear hfz36_5
                          try clear hfz39_0
                          try clear hfz39_1
                          try clear hfz39_2
                          try clear hfz39_3
                          try clear hfz39_4
                          try clear hfz39_5
                          try clear hfz40_0
                          try clear hfz40_1
                          try clear hfz40_2
                          try clear hfz40_3
                          try clear hfz40_4
                          try clear hfz40_5
                          try clear hfz42_0
                          try clear hfz42_1
                          try clear hfz42_2
                          try clear hfz42_3
                          try clear hfz42_4
                          try clear hfz42_5
                          try clear hfz43_0
                          try clear hfz43_1
                          try clear hfz43_2
                          try clear hfz43_3
                          try clear hfz43_4
                          try clear hfz43_5
                          try clear hx105_0
                          try clear hx105_1
                          try clear hx105_2
                          try clear hx105_3
                          try clear hx105_4
                          try clear hx105_5
                          try clear hx107_0
                          try clear hx107_1
                          try clear hx107_2
                          try clear hx107_3
                          try clear hx107_4
                          try clear hx107_5
                          try clear hx109_0
                          try clear hx110_0
                          try clear hx111_0
                          try clear hx12_0
                          try clear hx51_0
                          try clear p1
                          try clear p10
                          try clear p105
                          try clear p107
                          try clear p109
                          try clear p11
                          try clear p110
                          try clear p111
                          try clear p12
                          try clear p2
                          try clear p5
                          try clear p51
                          try clear p6
                          try clear q1
                          try clear q10
                          try clear q105
                          try clear q107
                          try clear q109
                          try clear q11
                          try clear q110
                          try clear q111
                          try clear q12
                          try clear q5
                          try clear q51
                          obtain ⟨x18_4, x110_4, rfl, HA, HK4, HO_6, HO_16, HO_18, HN18, HB⟩ := hrel
                          cases gk with
                          | zero => exact absurd HA.out (by simp [rope_groupsV.l6])
                          | succ k4 =>
                            have H := HA.out
                            clear HA
                            simp only [rope_groupsV.l6] at H
                            by_cases c55 : x110_4 < (l2.length : Int)
                            · rw [if_pos c55] at H
                              have c55b0 : decide (x110_4 < (l2.length : Int)) = true := decide_eq_true c55
                              clear c55
                              by_cases c56 : 0 ≤ x110_4
                              · rw [if_pos c56] at H
                                have c56b0 : decide (0 ≤ x110_4) = true := decide_eq_true c56
                                clear c56
                                by_cases c57 : x110_4 < (l2.length : Int)
                                · rw [if_pos c57] at H
                                  have c57b0 : decide (x110_4 < (l2.length : Int)) = true := decide_eq_true c57
                                  clear c57
                                  by_cases c58 : x110_4 < (x6_2.length : Int)
                                  · rw [if_pos c58] at H
                                    have c58b0 : decide (x110_4 < (x6_2.length : Int)) = true := decide_eq_true c58
                                    clear c58
                                    by_cases c59 : (rd x6_2 x110_4) = x105_3
                                    · rw [if_pos c59] at H
                                      have c59b0 : ((rd x6_2 x110_4) == x105_3) = true := beq_iff_eq.mpr c59
                                      have c59b1 : ((rd x6_2 x110_4) != x105_3) = false := bne_eq_false_iff_eq.mpr c59
                                      clear c59
                                      by_cases c60 : x18_4.length < 2513169434916
                                      · rw [if_pos c60] at H
                                        have LMc60 := Aside0.mk c60
                                        clear c60
                                        obtain ⟨y116, hy116⟩ : ∃ y_ : List (S93), y_ = (x18_4 ++ [(⟨(rd_T93 l2 x110_4).f0, (rd_T93 l2 x110_4).f1, (rd_T93 l2 x110_4).f2, (⟨(rd_T93 l2 x110_4).f3.f0, (rd_T93 l2 x110_4).f3.f1, (rd_T93 l2 x110_4).f3.f2⟩ : S47)⟩ : S93)]) := ⟨_, rfl⟩
                                        replace H : (rope_groupsV.l6 k4 l2 x6_2 x16_3 x105_3 y116 (l2.length : Int) x105_3 l2 (l2.length : Int) (wrap64 (x110_4 + 1))) = some r := by first | (rw [hy116]; with_reducible exact H) | (have H2_ := (Option.bind_some _ _).symm.trans H; rw [hy116]; with_reducible exact H2_) | (have H2_ := (Option.bind_some _ _).symm.trans H; with_reducible exact H2_) | with_reducible exact H | (rw [hy116]; exact H) | exact H
                                        have Ny116 := Aside0.mk hy116
                                        clear hy116
                                        have H' := Aside0.mk H
                                        clear H
                                        have p113 : 0 ≤ (x110_4 : Int) := of_decide_eq_true (by first | (with_reducible assumption) | assumption)
                                        have q113 : x110_4 < (l2.length : Int) := of_decide_eq_true (by first | (with_reducible assumption) | assumption)
                                        obtain ⟨ad113, e113, hx113_0, hx113_1, hx113_2, hx113_3, hx113_4, hx113_5⟩ := at_T93 HR2.out x110_4 p113 q113
                                        cases e113
                                        replace hx113_0 := (HB.out.cell (World.block_lt_of_cell? w _ hx113_0)).trans hx113_0
                                        replace hx113_1 := (HB.out.cell (World.block_lt_of_cell? w _ hx113_1)).trans hx113_1
                                        replace hx113_2 := (HB.out.cell (World.block_lt_of_cell? w _ hx113_2)).trans hx113_2
                                        replace hx113_3 := (HB.out.cell (World.block_lt_of_cell? w _ hx113_3)).trans hx113_3
                                        replace hx113_4 := (HB.out.cell (World.block_lt_of_cell? w _ hx113_4)).trans hx113_4
                                        replace hx113_5 := (HB.out.cell (World.block_lt_of_cell? w _ hx113_5)).trans hx113_5
                                        replace p113 := eq_true p113
                                        replace q113 := eq_true q113
                                        go_wp2_with (first | ((with_reducible refine gate_dst (N := 20) rfl ?_); refine box_event ?hg (N := 20) ?hd (cs := #[.int .i64 0, .int .i64 0, .bool false, .int .i64 0, .int .i64 0, .string (⟨#[]⟩ : ByteArray)]) (t := 93) ?hr ?_; (case hd => rfl); (case hg => rfl); (case hr => first | (go_simp; done) | (go_simp; rfl)); intro gb114 hg w61 hbox hb; have n0_ := Aside0.mk (Kd.R_below (by (with_reducible repeat (first | apply Kd.R_alloc | apply Kd.R_drewN | apply Kd.R_drew)); exact HO_6.out) hb); have n1_ := Aside0.mk (Kd.S_below (Kd.S_elderB (by (with_reducible repeat (first | apply Kd.S_alloc | apply Kd.S_drewN | apply Kd.S_drew)); exact HO_16.out) gb114 (Nat.le_of_eq hg.symm)) hb); have n2_ := Aside0.mk (Kd.R_below (Kd.R_elderB (by (with_reducible repeat (first | apply Kd.R_alloc | apply Kd.R_drewN | apply Kd.R_drew)); exact HO_18.out) gb114 (Nat.le_of_eq hg.symm)) hb); have n3_ := Aside0.mk (below_step (by repeat (first | (with_reducible first | exact HB.out | apply below_alloc | apply pw_below_drewN | apply below_drew1) | exact HB.out)) hb); have n4_ := Aside0.mk (hbox); have n5_ := Aside0.mk ((by rw [hg]; exact (below_size (by repeat (first | (with_reducible first | exact HB.out | apply below_alloc | apply pw_below_drewN | apply below_drew1) | exact HB.out))) : w.heap.size ≤ gb114)); have n6_ := Aside0.mk ((by rw [hg]; exact (below_size (by repeat (first | (with_reducible first | exact HB.out | apply below_alloc | apply pw_below_drewN | apply below_drew1) | exact HB.out))) : w.heap.size ≤ gb114)); clear HO_6; clear HO_16; clear HO_18; clear HB; have HO_6 := n0_; have HO_16 := n1_; have HO_18 := n2_; have HB := n3_; have BK114 := n4_; have GW114 := n5_; have GE114 := n6_; clear n0_ n1_ n2_ n3_ n4_ n5_ n6_; clear hb hbox hg; have hcz62_0 : w61.cell? ⟨gb114, 0, none⟩ = some (.int .i64 0) := (blk_cell BK114.out 0).trans rfl; have hcz62_1 : w61.cell? ⟨gb114, 1, none⟩ = some (.int .i64 0) := (blk_cell BK114.out 1).trans rfl; have hcz62_2 : w61.cell? ⟨gb114, 2, none⟩ = some (.bool false) := (blk_cell BK114.out 2).trans rfl; have hcz62_3 : w61.cell? ⟨gb114, 3, none⟩ = some (.int .i64 0) := (blk_cell BK114.out 3).trans rfl; have hcz62_4 : w61.cell? ⟨gb114, 4, none⟩ = some (.int .i64 0) := (blk_cell BK114.out 4).trans rfl; have hcz62_5 : w61.cell? ⟨gb114, 5, none⟩ = some (.string (⟨#[]⟩ : ByteArray)) := (blk_cell BK114.out 5).trans rfl; have hfz62_0 := blk_frozen BK114.out 0; have hfz62_1 := blk_frozen BK114.out 1; have hfz62_2 := blk_frozen BK114.out 2; have hfz62_3 := blk_frozen BK114.out 3; have hfz62_4 := blk_frozen BK114.out 4; have hfz62_5 := blk_frozen BK114.out 5; have p115 : 0 ≤ (x110_4 : Int) := of_decide_eq_true (by first | (with_reducible assumption) | assumption); have q115 : x110_4 < (x6_2.length : Int) := of_decide_eq_true (by first | (with_reducible assumption) | assumption); obtain ⟨ad115, e115, hx115_0⟩ := Kd.at_int (Kd.R_reads' HO_6.out).2.2 x110_4 p115 q115; cases e115; have hn115_0 : ad115.block ≠ gb114 := Kd.own_blk (Kd.R_ne HO_6.out BK114.out (by decide)); have hn115_1 : ad115.block ≠ gb114 := Kd.own_blk (Kd.R_ne HO_6.out BK114.out (by decide)); have hn115_2 : ad115.block ≠ gb114 := Kd.own_blk (Kd.R_ne HO_6.out BK114.out (by decide)); have hn115_3 : ad115.block ≠ gb114 := Kd.own_blk (Kd.R_ne HO_6.out BK114.out (by decide)); have hn115_4 : ad115.block ≠ gb114 := Kd.own_blk (Kd.R_ne HO_6.out BK114.out (by decide)); have hn115_5 : ad115.block ≠ gb114 := Kd.own_blk (Kd.R_ne HO_6.out BK114.out (by decide)); have hz115 := hx115_0; replace hx115_0 := (cell_far (p := ⟨gb114, 0, none⟩) (by first | (rw [add_block]; exact hn115_0) | (show (Addr.add _ _).block ≠ _; rw [add_block]; exact hn115_0) | exact hn115_0) (.int .i64 ((rd_T93 l2 x110_4).f0))).trans hx115_0; replace hx115_0 := (cell_far (p := ⟨gb114, 1, none⟩) (by first | (rw [add_block]; exact hn115_1) | (show (Addr.add _ _).block ≠ _; rw [add_block]; exact hn115_1) | exact hn115_1) (.int .i64 ((rd_T93 l2 x110_4).f1))).trans hx115_0; replace hx115_0 := (cell_far (p := ⟨gb114, 2, none⟩) (by first | (rw [add_block]; exact hn115_2) | (show (Addr.add _ _).block ≠ _; rw [add_block]; exact hn115_2) | exact hn115_2) (.bool ((rd_T93 l2 x110_4).f2))).trans hx115_0; replace hx115_0 := (cell_far (p := ⟨gb114, 3, none⟩) (by first | (rw [add_block]; exact hn115_3) | (show (Addr.add _ _).block ≠ _; rw [add_block]; exact hn115_3) | exact hn115_3) (.int .i64 ((rd_T93 l2 x110_4).f3.f0))).trans hx115_0; replace hx115_0 := (cell_far (p := ⟨gb114, 4, none⟩) (by first | (rw [add_block]; exact hn115_4) | (show (Addr.add _ _).block ≠ _; rw [add_block]; exact hn115_4) | exact hn115_4) (.int .i64 ((rd_T93 l2 x110_4).f3.f1))).trans hx115_0; replace hx115_0 := (cell_far (p := ⟨gb114, 5, none⟩) (by first | (rw [add_block]; exact hn115_5) | (show (Addr.add _ _).block ≠ _; rw [add_block]; exact hn115_5) | exact hn115_5) (.string ((rd_T93 l2 x110_4).f3.f2))).trans hx115_0; have hy115_0 := fun (n_ : Nat) => ((cell_far (p := ⟨gb114, 5, none⟩) (by first | (rw [add_block]; exact hn115_5) | (show (Addr.add _ _).block ≠ _; rw [add_block]; exact hn115_5) | exact hn115_5) (.string ((rd_T93 l2 x110_4).f3.f2))).trans ((cell_far (p := ⟨gb114, 4, none⟩) (by first | (rw [add_block]; exact hn115_4) | (show (Addr.add _ _).block ≠ _; rw [add_block]; exact hn115_4) | exact hn115_4) (.int .i64 ((rd_T93 l2 x110_4).f3.f1))).trans ((cell_far (p := ⟨gb114, 3, none⟩) (by first | (rw [add_block]; exact hn115_3) | (show (Addr.add _ _).block ≠ _; rw [add_block]; exact hn115_3) | exact hn115_3) (.int .i64 ((rd_T93 l2 x110_4).f3.f0))).trans ((cell_far (p := ⟨gb114, 2, none⟩) (by first | (rw [add_block]; exact hn115_2) | (show (Addr.add _ _).block ≠ _; rw [add_block]; exact hn115_2) | exact hn115_2) (.bool ((rd_T93 l2 x110_4).f2))).trans ((cell_far (p := ⟨gb114, 1, none⟩) (by first | (rw [add_block]; exact hn115_1) | (show (Addr.add _ _).block ≠ _; rw [add_block]; exact hn115_1) | exact hn115_1) (.int .i64 ((rd_T93 l2 x110_4).f1))).trans ((cell_far (p := ⟨gb114, 0, none⟩) (by first | (rw [add_block]; exact hn115_0) | (show (Addr.add _ _).block ≠ _; rw [add_block]; exact hn115_0) | exact hn115_0) (.int .i64 ((rd_T93 l2 x110_4).f0))).trans (show (w61.drewN n_).cell? _ = some _ from hz115))))))); clear hn115_0; clear hn115_1; clear hn115_2; clear hn115_3; clear hn115_4; clear hn115_5; replace p115 := eq_true p115; replace q115 := eq_true q115) | ((with_reducible refine gate_builtin (b := .append) (xs := #[.tmp 121, .tmp 123]) rfl ?_); at_builtin; refine Kd.R_append k93 (w0 := w) w.heap.size rfl (.tmp 121) (.tmp 123) 91 93 (.agg #[(.int .i64 0), (.int .i64 0), (.bool false), (.int .i64 0), (.int .i64 0), (.string ⟨#[]⟩)]) 56 rfl Try.underlying91 info93 rfl (by decide) (by omega) u18 x18_4 (⟨(rd_T93 l2 x110_4).f0, (rd_T93 l2 x110_4).f1, (rd_T93 l2 x110_4).f2, (⟨(rd_T93 l2 x110_4).f3.f0, (rd_T93 l2 x110_4).f3.f1, (rd_T93 l2 x110_4).f3.f2⟩ : S47)⟩ : S93) [.int .i64 ((rd_T93 l2 x110_4).f0), .int .i64 ((rd_T93 l2 x110_4).f1), .bool ((rd_T93 l2 x110_4).f2), .int .i64 ((rd_T93 l2 x110_4).f3.f0), .int .i64 ((rd_T93 l2 x110_4).f3.f1), .string ((rd_T93 l2 x110_4).f3.f2)] (fun k_ => k_ ≠ gb114) (fun _ => False) rfl (by first | (go_simp; done) | (go_simp; rfl)) ?aP (fun _ hk => hk.elim) ?aF ?aO ?aB ?aS ?aL ?_; (case aP => exact k93_mkM _ _ _ (⟨(rd_T93 l2 x110_4).f0, (rd_T93 l2 x110_4).f1, (rd_T93 l2 x110_4).f2, (⟨(rd_T93 l2 x110_4).f3.f0, (rd_T93 l2 x110_4).f3.f1, (rd_T93 l2 x110_4).f3.f2⟩ : S47)⟩ : S93)); (case aB => exact (by repeat (first | (with_reducible first | exact HB.out | apply below_alloc | apply pw_below_drewN | apply below_drew1 | refine below_set ?_ GE114.out) | exact HB.out))); (case aF => exact (fun k_ hk => Kd.freshB (g := gb114) (o := .cells #[.int .i64 ((rd_T93 l2 x110_4).f0), .int .i64 ((rd_T93 l2 x110_4).f1), .bool ((rd_T93 l2 x110_4).f2), .int .i64 ((rd_T93 l2 x110_4).f3.f0), .int .i64 ((rd_T93 l2 x110_4).f3.f1), .string ((rd_T93 l2 x110_4).f3.f2)] 93 (0, 0)) (by (with_reducible repeat (first | refine blk_drewN ?_ _ | refine blk_drew ?_ | refine blk_alloc ?_ _)); refine blk_put (cs := #[.int .i64 ((rd_T93 l2 x110_4).f0), .int .i64 ((rd_T93 l2 x110_4).f1), .bool ((rd_T93 l2 x110_4).f2), .int .i64 ((rd_T93 l2 x110_4).f3.f0), .int .i64 ((rd_T93 l2 x110_4).f3.f1), .string (⟨#[]⟩ : ByteArray)]) ?_ 5 _ rfl; (with_reducible repeat (first | refine blk_drewN ?_ _ | refine blk_drew ?_ | refine blk_alloc ?_ _)); refine blk_put (cs := #[.int .i64 ((rd_T93 l2 x110_4).f0), .int .i64 ((rd_T93 l2 x110_4).f1), .bool ((rd_T93 l2 x110_4).f2), .int .i64 ((rd_T93 l2 x110_4).f3.f0), .int .i64 0, .string (⟨#[]⟩ : ByteArray)]) ?_ 4 _ rfl; (with_reducible repeat (first | refine blk_drewN ?_ _ | refine blk_drew ?_ | refine blk_alloc ?_ _)); refine blk_put (cs := #[.int .i64 ((rd_T93 l2 x110_4).f0), .int .i64 ((rd_T93 l2 x110_4).f1), .bool ((rd_T93 l2 x110_4).f2), .int .i64 0, .int .i64 0, .string (⟨#[]⟩ : ByteArray)]) ?_ 3 _ rfl; (with_reducible repeat (first | refine blk_drewN ?_ _ | refine blk_drew ?_ | refine blk_alloc ?_ _)); refine blk_put (cs := #[.int .i64 ((rd_T93 l2 x110_4).f0), .int .i64 ((rd_T93 l2 x110_4).f1), .bool false, .int .i64 0, .int .i64 0, .string (⟨#[]⟩ : ByteArray)]) ?_ 2 _ rfl; (with_reducible repeat (first | refine blk_drewN ?_ _ | refine blk_drew ?_ | refine blk_alloc ?_ _)); refine blk_put (cs := #[.int .i64 ((rd_T93 l2 x110_4).f0), .int .i64 0, .bool false, .int .i64 0, .int .i64 0, .string (⟨#[]⟩ : ByteArray)]) ?_ 1 _ rfl; (with_reducible repeat (first | refine blk_drewN ?_ _ | refine blk_drew ?_ | refine blk_alloc ?_ _)); refine blk_put (cs := #[.int .i64 0, .int .i64 0, .bool false, .int .i64 0, .int .i64 0, .string (⟨#[]⟩ : ByteArray)]) ?_ 0 _ rfl; (with_reducible repeat (first | refine blk_drewN ?_ _ | refine blk_drew ?_ | refine blk_alloc ?_ _)); exact BK114.out) k_ hk)); (case aO => exact (by (with_reducible repeat (first | apply Kd.R_alloc | apply Kd.R_drewN | apply Kd.R_drew)); exact Kd.R_mono (Kd.R_far (p := ⟨gb114, 5, none⟩) (Kd.R_far (p := ⟨gb114, 4, none⟩) (Kd.R_far (p := ⟨gb114, 3, none⟩) (Kd.R_far (p := ⟨gb114, 2, none⟩) (Kd.R_far (p := ⟨gb114, 1, none⟩) (Kd.R_far (p := ⟨gb114, 0, none⟩) (Kd.R_mono HO_18.out (fun k_ hk => (⟨hk, hk.2⟩ : _ ∧ k_ ≠ gb114))) (fun _ hk => hk.2) (.int .i64 ((rd_T93 l2 x110_4).f0))) (fun _ hk => hk.2) (.int .i64 ((rd_T93 l2 x110_4).f1))) (fun _ hk => hk.2) (.bool ((rd_T93 l2 x110_4).f2))) (fun _ hk => hk.2) (.int .i64 ((rd_T93 l2 x110_4).f3.f0))) (fun _ hk => hk.2) (.int .i64 ((rd_T93 l2 x110_4).f3.f1))) (fun _ hk => hk.2) (.string ((rd_T93 l2 x110_4).f3.f2))) (fun _ hk => hk.1.2))); (case aS => exact (below_size (by repeat (first | (with_reducible first | exact HB.out | apply below_alloc | apply pw_below_drewN | apply below_drew1 | refine below_set ?_ GE114.out) | exact HB.out)))); (case aL => have := LMc60.out; omega); intro v117 w63 ho hb hg hat; rw [← Ny116.out] at ho; have n0_ := Aside0.mk (Kd.R_over' (by (with_reducible repeat (first | apply Kd.R_alloc | apply Kd.R_drewN | apply Kd.R_drew)); exact (Kd.R_mono (Kd.R_far (p := ⟨gb114, 5, none⟩) (Kd.R_far (p := ⟨gb114, 4, none⟩) (Kd.R_far (p := ⟨gb114, 3, none⟩) (Kd.R_far (p := ⟨gb114, 2, none⟩) (Kd.R_far (p := ⟨gb114, 1, none⟩) (Kd.R_far (p := ⟨gb114, 0, none⟩) (Kd.R_types HO_6.out BK114.out (by decide)) (fun _ hk => hk.2) (.int .i64 ((rd_T93 l2 x110_4).f0))) (fun _ hk => hk.2) (.int .i64 ((rd_T93 l2 x110_4).f1))) (fun _ hk => hk.2) (.bool ((rd_T93 l2 x110_4).f2))) (fun _ hk => hk.2) (.int .i64 ((rd_T93 l2 x110_4).f3.f0))) (fun _ hk => hk.2) (.int .i64 ((rd_T93 l2 x110_4).f3.f1))) (fun _ hk => hk.2) (.string ((rd_T93 l2 x110_4).f3.f2))) (fun _ h_ => h_.1))) (Kd.R_typed (by (with_reducible repeat (first | apply Kd.R_alloc | apply Kd.R_drewN | apply Kd.R_drew)); exact (Kd.R_mono (Kd.R_far (p := ⟨gb114, 5, none⟩) (Kd.R_far (p := ⟨gb114, 4, none⟩) (Kd.R_far (p := ⟨gb114, 3, none⟩) (Kd.R_far (p := ⟨gb114, 2, none⟩) (Kd.R_far (p := ⟨gb114, 1, none⟩) (Kd.R_far (p := ⟨gb114, 0, none⟩) (Kd.R_mono HO_18.out (fun k_ hk => (⟨hk, hk.2⟩ : _ ∧ k_ ≠ gb114))) (fun _ hk => hk.2) (.int .i64 ((rd_T93 l2 x110_4).f0))) (fun _ hk => hk.2) (.int .i64 ((rd_T93 l2 x110_4).f1))) (fun _ hk => hk.2) (.bool ((rd_T93 l2 x110_4).f2))) (fun _ hk => hk.2) (.int .i64 ((rd_T93 l2 x110_4).f3.f0))) (fun _ hk => hk.2) (.int .i64 ((rd_T93 l2 x110_4).f3.f1))) (fun _ hk => hk.2) (.string ((rd_T93 l2 x110_4).f3.f2))) (fun _ h_ => h_.1)))) (by decide) hg); have n1_ := Aside0.mk (Kd.S_after (ok := (fun k_ => k_ ≠ gb114)) (by (with_reducible repeat (first | apply Kd.S_alloc | apply Kd.S_drewN | apply Kd.S_drew)); exact Kd.S_mono (Kd.S_far (p := ⟨gb114, 5, none⟩) (Kd.S_far (p := ⟨gb114, 4, none⟩) (Kd.S_far (p := ⟨gb114, 3, none⟩) (Kd.S_far (p := ⟨gb114, 2, none⟩) (Kd.S_far (p := ⟨gb114, 1, none⟩) (Kd.S_far (p := ⟨gb114, 0, none⟩) (Kd.S_mono HO_16.out (fun k_ hk => (⟨hk, hk.2⟩ : _ ∧ k_ ≠ gb114))) (fun _ hk => hk.2) (.int .i64 ((rd_T93 l2 x110_4).f0))) (fun _ hk => hk.2) (.int .i64 ((rd_T93 l2 x110_4).f1))) (fun _ hk => hk.2) (.bool ((rd_T93 l2 x110_4).f2))) (fun _ hk => hk.2) (.int .i64 ((rd_T93 l2 x110_4).f3.f0))) (fun _ hk => hk.2) (.int .i64 ((rd_T93 l2 x110_4).f3.f1))) (fun _ hk => hk.2) (.string ((rd_T93 l2 x110_4).f3.f2))) (fun _ hk => ⟨hk.1.2, hk.1.1⟩)) hg hat); have n2_ := Aside0.mk (blk_grown (g := gb114) (o := .cells #[.int .i64 ((rd_T93 l2 x110_4).f0), .int .i64 ((rd_T93 l2 x110_4).f1), .bool ((rd_T93 l2 x110_4).f2), .int .i64 ((rd_T93 l2 x110_4).f3.f0), .int .i64 ((rd_T93 l2 x110_4).f3.f1), .string ((rd_T93 l2 x110_4).f3.f2)] 93 (0, 0)) (by (with_reducible repeat (first | refine blk_drewN ?_ _ | refine blk_drew ?_ | refine blk_alloc ?_ _)); refine blk_put (cs := #[.int .i64 ((rd_T93 l2 x110_4).f0), .int .i64 ((rd_T93 l2 x110_4).f1), .bool ((rd_T93 l2 x110_4).f2), .int .i64 ((rd_T93 l2 x110_4).f3.f0), .int .i64 ((rd_T93 l2 x110_4).f3.f1), .string (⟨#[]⟩ : ByteArray)]) ?_ 5 _ rfl; (with_reducible repeat (first | refine blk_drewN ?_ _ | refine blk_drew ?_ | refine blk_alloc ?_ _)); refine blk_put (cs := #[.int .i64 ((rd_T93 l2 x110_4).f0), .int .i64 ((rd_T93 l2 x110_4).f1), .bool ((rd_T93 l2 x110_4).f2), .int .i64 ((rd_T93 l2 x110_4).f3.f0), .int .i64 0, .string (⟨#[]⟩ : ByteArray)]) ?_ 4 _ rfl; (with_reducible repeat (first | refine blk_drewN ?_ _ | refine blk_drew ?_ | refine blk_alloc ?_ _)); refine blk_put (cs := #[.int .i64 ((rd_T93 l2 x110_4).f0), .int .i64 ((rd_T93 l2 x110_4).f1), .bool ((rd_T93 l2 x110_4).f2), .int .i64 0, .int .i64 0, .string (⟨#[]⟩ : ByteArray)]) ?_ 3 _ rfl; (with_reducible repeat (first | refine blk_drewN ?_ _ | refine blk_drew ?_ | refine blk_alloc ?_ _)); refine blk_put (cs := #[.int .i64 ((rd_T93 l2 x110_4).f0), .int .i64 ((rd_T93 l2 x110_4).f1), .bool false, .int .i64 0, .int .i64 0, .string (⟨#[]⟩ : ByteArray)]) ?_ 2 _ rfl; (with_reducible repeat (first | refine blk_drewN ?_ _ | refine blk_drew ?_ | refine blk_alloc ?_ _)); refine blk_put (cs := #[.int .i64 ((rd_T93 l2 x110_4).f0), .int .i64 0, .bool false, .int .i64 0, .int .i64 0, .string (⟨#[]⟩ : ByteArray)]) ?_ 1 _ rfl; (with_reducible repeat (first | refine blk_drewN ?_ _ | refine blk_drew ?_ | refine blk_alloc ?_ _)); refine blk_put (cs := #[.int .i64 0, .int .i64 0, .bool false, .int .i64 0, .int .i64 0, .string (⟨#[]⟩ : ByteArray)]) ?_ 0 _ rfl; (with_reducible repeat (first | refine blk_drewN ?_ _ | refine blk_drew ?_ | refine blk_alloc ?_ _)); exact BK114.out) hg (Kd.R_away HO_18.out (fun _ hk => hk.2))); have n3_ := Aside0.mk (hb); have n4_ := Aside0.mk (ho); clear HO_6; clear HO_16; clear BK114; clear HB; clear HO_18; have HO_6 := n0_; have HO_16 := n1_; have BK114 := n2_; have HB := n3_; have HO118 := n4_; clear n0_ n1_ n2_ n3_ n4_; clear ho hb hg hat))
                                        repeat (go_quiet (first | ((with_reducible refine gate_dst (N := 20) rfl ?_); refine box_event ?hg (N := 20) ?hd (cs := #[.int .i64 0, .int .i64 0, .bool false, .int .i64 0, .int .i64 0, .string (⟨#[]⟩ : ByteArray)]) (t := 93) ?hr ?_; (case hd => rfl); (case hg => rfl); (case hr => first | (go_simp; done) | (go_simp; rfl)); intro gb114 hg w61 hbox hb; have n0_ := Aside0.mk (Kd.R_below (by (with_reducible repeat (first | apply Kd.R_alloc | apply Kd.R_drewN | apply Kd.R_drew)); exact HO_6.out) hb); have n1_ := Aside0.mk (Kd.S_below (Kd.S_elderB (by (with_reducible repeat (first | apply Kd.S_alloc | apply Kd.S_drewN | apply Kd.S_drew)); exact HO_16.out) gb114 (Nat.le_of_eq hg.symm)) hb); have n2_ := Aside0.mk (Kd.R_below (Kd.R_elderB (by (with_reducible repeat (first | apply Kd.R_alloc | apply Kd.R_drewN | apply Kd.R_drew)); exact HO_18.out) gb114 (Nat.le_of_eq hg.symm)) hb); have n3_ := Aside0.mk (below_step (by repeat (first | (with_reducible first | exact HB.out | apply below_alloc | apply pw_below_drewN | apply below_drew1) | exact HB.out)) hb); have n4_ := Aside0.mk (hbox); have n5_ := Aside0.mk ((by rw [hg]; exact (below_size (by repeat (first | (with_reducible first | exact HB.out | apply below_alloc | apply pw_below_drewN | apply below_drew1) | exact HB.out))) : w.heap.size ≤ gb114)); have n6_ := Aside0.mk ((by rw [hg]; exact (below_size (by repeat (first | (with_reducible first | exact HB.out | apply below_alloc | apply pw_below_drewN | apply below_drew1) | exact HB.out))) : w.heap.size ≤ gb114)); clear HO_6; clear HO_16; clear HO_18; clear HB; have HO_6 := n0_; have HO_16 := n1_; have HO_18 := n2_; have HB := n3_; have BK114 := n4_; have GW114 := n5_; have GE114 := n6_; clear n0_ n1_ n2_ n3_ n4_ n5_ n6_; clear hb hbox hg; have hcz62_0 : w61.cell? ⟨gb114, 0, none⟩ = some (.int .i64 0) := (blk_cell BK114.out 0).trans rfl; have hcz62_1 : w61.cell? ⟨gb114, 1, none⟩ = some (.int .i64 0) := (blk_cell BK114.out 1).trans rfl; have hcz62_2 : w61.cell? ⟨gb114, 2, none⟩ = some (.bool false) := (blk_cell BK114.out 2).trans rfl; have hcz62_3 : w61.cell? ⟨gb114, 3, none⟩ = some (.int .i64 0) := (blk_cell BK114.out 3).trans rfl; have hcz62_4 : w61.cell? ⟨gb114, 4, none⟩ = some (.int .i64 0) := (blk_cell BK114.out 4).trans rfl; have hcz62_5 : w61.cell? ⟨gb114, 5, none⟩ = some (.string (⟨#[]⟩ : ByteArray)) := (blk_cell BK114.out 5).trans rfl; have hfz62_0 := blk_frozen BK114.out 0; have hfz62_1 := blk_frozen BK114.out 1; have hfz62_2 := blk_frozen BK114.out 2; have hfz62_3 := blk_frozen BK114.out 3; have hfz62_4 := blk_frozen BK114.out 4; have hfz62_5 := blk_frozen BK114.out 5; have p115 : 0 ≤ (x110_4 : Int) := of_decide_eq_true (by first | (with_reducible assumption) | assumption); have q115 : x110_4 < (x6_2.length : Int) := of_decide_eq_true (by first | (with_reducible assumption) | assumption); obtain ⟨ad115, e115, hx115_0⟩ := Kd.at_int (Kd.R_reads' HO_6.out).2.2 x110_4 p115 q115; cases e115; have hn115_0 : ad115.block ≠ gb114 := Kd.own_blk (Kd.R_ne HO_6.out BK114.out (by decide)); have hn115_1 : ad115.block ≠ gb114 := Kd.own_blk (Kd.R_ne HO_6.out BK114.out (by decide)); have hn115_2 : ad115.block ≠ gb114 := Kd.own_blk (Kd.R_ne HO_6.out BK114.out (by decide)); have hn115_3 : ad115.block ≠ gb114 := Kd.own_blk (Kd.R_ne HO_6.out BK114.out (by decide)); have hn115_4 : ad115.block ≠ gb114 := Kd.own_blk (Kd.R_ne HO_6.out BK114.out (by decide)); have hn115_5 : ad115.block ≠ gb114 := Kd.own_blk (Kd.R_ne HO_6.out BK114.out (by decide)); have hz115 := hx115_0; replace hx115_0 := (cell_far (p := ⟨gb114, 0, none⟩) (by first | (rw [add_block]; exact hn115_0) | (show (Addr.add _ _).block ≠ _; rw [add_block]; exact hn115_0) | exact hn115_0) (.int .i64 ((rd_T93 l2 x110_4).f0))).trans hx115_0; replace hx115_0 := (cell_far (p := ⟨gb114, 1, none⟩) (by first | (rw [add_block]; exact hn115_1) | (show (Addr.add _ _).block ≠ _; rw [add_block]; exact hn115_1) | exact hn115_1) (.int .i64 ((rd_T93 l2 x110_4).f1))).trans hx115_0; replace hx115_0 := (cell_far (p := ⟨gb114, 2, none⟩) (by first | (rw [add_block]; exact hn115_2) | (show (Addr.add _ _).block ≠ _; rw [add_block]; exact hn115_2) | exact hn115_2) (.bool ((rd_T93 l2 x110_4).f2))).trans hx115_0; replace hx115_0 := (cell_far (p := ⟨gb114, 3, none⟩) (by first | (rw [add_block]; exact hn115_3) | (show (Addr.add _ _).block ≠ _; rw [add_block]; exact hn115_3) | exact hn115_3) (.int .i64 ((rd_T93 l2 x110_4).f3.f0))).trans hx115_0; replace hx115_0 := (cell_far (p := ⟨gb114, 4, none⟩) (by first | (rw [add_block]; exact hn115_4) | (show (Addr.add _ _).block ≠ _; rw [add_block]; exact hn115_4) | exact hn115_4) (.int .i64 ((rd_T93 l2 x110_4).f3.f1))).trans hx115_0; replace hx115_0 := (cell_far (p := ⟨gb114, 5, none⟩) (by first | (rw [add_block]; exact hn115_5) | (show (Addr.add _ _).block ≠ _; rw [add_block]; exact hn115_5) | exact hn115_5) (.string ((rd_T93 l2 x110_4).f3.f2))).trans hx115_0; have hy115_0 := fun (n_ : Nat) => ((cell_far (p := ⟨gb114, 5, none⟩) (by first | (rw [add_block]; exact hn115_5) | (show (Addr.add _ _).block ≠ _; rw [add_block]; exact hn115_5) | exact hn115_5) (.string ((rd_T93 l2 x110_4).f3.f2))).trans ((cell_far (p := ⟨gb114, 4, none⟩) (by first | (rw [add_block]; exact hn115_4) | (show (Addr.add _ _).block ≠ _; rw [add_block]; exact hn115_4) | exact hn115_4) (.int .i64 ((rd_T93 l2 x110_4).f3.f1))).trans ((cell_far (p := ⟨gb114, 3, none⟩) (by first | (rw [add_block]; exact hn115_3) | (show (Addr.add _ _).block ≠ _; rw [add_block]; exact hn115_3) | exact hn115_3) (.int .i64 ((rd_T93 l2 x110_4).f3.f0))).trans ((cell_far (p := ⟨gb114, 2, none⟩) (by first | (rw [add_block]; exact hn115_2) | (show (Addr.add _ _).block ≠ _; rw [add_block]; exact hn115_2) | exact hn115_2) (.bool ((rd_T93 l2 x110_4).f2))).trans ((cell_far (p := ⟨gb114, 1, none⟩) (by first | (rw [add_block]; exact hn115_1) | (show (Addr.add _ _).block ≠ _; rw [add_block]; exact hn115_1) | exact hn115_1) (.int .i64 ((rd_T93 l2 x110_4).f1))).trans ((cell_far (p := ⟨gb114, 0, none⟩) (by first | (rw [add_block]; exact hn115_0) | (show (Addr.add _ _).block ≠ _; rw [add_block]; exact hn115_0) | exact hn115_0) (.int .i64 ((rd_T93 l2 x110_4).f0))).trans (show (w61.drewN n_).cell? _ = some _ from hz115))))))); clear hn115_0; clear hn115_1; clear hn115_2; clear hn115_3; clear hn115_4; clear hn115_5; replace p115 := eq_true p115; replace q115 := eq_true q115) | ((with_reducible refine gate_builtin (b := .append) (xs := #[.tmp 121, .tmp 123]) rfl ?_); at_builtin; refine Kd.R_append k93 (w0 := w) w.heap.size rfl (.tmp 121) (.tmp 123) 91 93 (.agg #[(.int .i64 0), (.int .i64 0), (.bool false), (.int .i64 0), (.int .i64 0), (.string ⟨#[]⟩)]) 56 rfl Try.underlying91 info93 rfl (by decide) (by omega) u18 x18_4 (⟨(rd_T93 l2 x110_4).f0, (rd_T93 l2 x110_4).f1, (rd_T93 l2 x110_4).f2, (⟨(rd_T93 l2 x110_4).f3.f0, (rd_T93 l2 x110_4).f3.f1, (rd_T93 l2 x110_4).f3.f2⟩ : S47)⟩ : S93) [.int .i64 ((rd_T93 l2 x110_4).f0), .int .i64 ((rd_T93 l2 x110_4).f1), .bool ((rd_T93 l2 x110_4).f2), .int .i64 ((rd_T93 l2 x110_4).f3.f0), .int .i64 ((rd_T93 l2 x110_4).f3.f1), .string ((rd_T93 l2 x110_4).f3.f2)] (fun k_ => k_ ≠ gb114) (fun _ => False) rfl (by first | (go_simp; done) | (go_simp; rfl)) ?aP (fun _ hk => hk.elim) ?aF ?aO ?aB ?aS ?aL ?_; (case aP => exact k93_mkM _ _ _ (⟨(rd_T93 l2 x110_4).f0, (rd_T93 l2 x110_4).f1, (rd_T93 l2 x110_4).f2, (⟨(rd_T93 l2 x110_4).f3.f0, (rd_T93 l2 x110_4).f3.f1, (rd_T93 l2 x110_4).f3.f2⟩ : S47)⟩ : S93)); (case aB => exact (by repeat (first | (with_reducible first | exact HB.out | apply below_alloc | apply pw_below_drewN | apply below_drew1 | refine below_set ?_ GE114.out) | exact HB.out))); (case aF => exact (fun k_ hk => Kd.freshB (g := gb114) (o := .cells #[.int .i64 ((rd_T93 l2 x110_4).f0), .int .i64 ((rd_T93 l2 x110_4).f1), .bool ((rd_T93 l2 x110_4).f2), .int .i64 ((rd_T93 l2 x110_4).f3.f0), .int .i64 ((rd_T93 l2 x110_4).f3.f1), .string ((rd_T93 l2 x110_4).f3.f2)] 93 (0, 0)) (by (with_reducible repeat (first | refine blk_drewN ?_ _ | refine blk_drew ?_ | refine blk_alloc ?_ _)); refine blk_put (cs := #[.int .i64 ((rd_T93 l2 x110_4).f0), .int .i64 ((rd_T93 l2 x110_4).f1), .bool ((rd_T93 l2 x110_4).f2), .int .i64 ((rd_T93 l2 x110_4).f3.f0), .int .i64 ((rd_T93 l2 x110_4).f3.f1), .string (⟨#[]⟩ : ByteArray)]) ?_ 5 _ rfl; (with_reducible repeat (first | refine blk_drewN ?_ _ | refine blk_drew ?_ | refine blk_alloc ?_ _)); refine blk_put (cs := #[.int .i64 ((rd_T93 l2 x110_4).f0), .int .i64 ((rd_T93 l2 x110_4).f1), .bool ((rd_T93 l2 x110_4).f2), .int .i64 ((rd_T93 l2 x110_4).f3.f0), .int .i64 0, .string (⟨#[]⟩ : ByteArray)]) ?_ 4 _ rfl; (with_reducible repeat (first | refine blk_drewN ?_ _ | refine blk_drew ?_ | refine blk_alloc ?_ _)); refine blk_put (cs := #[.int .i64 ((rd_T93 l2 x110_4).f0), .int .i64 ((rd_T93 l2 x110_4).f1), .bool ((rd_T93 l2 x110_4).f2), .int .i64 0, .int .i64 0, .string (⟨#[]⟩ : ByteArray)]) ?_ 3 _ rfl; (with_reducible repeat (first | refine blk_drewN ?_ _ | refine blk_drew ?_ | refine blk_alloc ?_ _)); refine blk_put (cs := #[.int .i64 ((rd_T93 l2 x110_4).f0), .int .i64 ((rd_T93 l2 x110_4).f1), .bool false, .int .i64 0, .int .i64 0, .string (⟨#[]⟩ : ByteArray)]) ?_ 2 _ rfl; (with_reducible repeat (first | refine blk_drewN ?_ _ | refine blk_drew ?_ | refine blk_alloc ?_ _)); refine blk_put (cs := #[.int .i64 ((rd_T93 l2 x110_4).f0), .int .i64 0, .bool false, .int .i64 0, .int .i64 0, .string (⟨#[]⟩ : ByteArray)]) ?_ 1 _ rfl; (with_reducible repeat (first | refine blk_drewN ?_ _ | refine blk_drew ?_ | refine blk_alloc ?_ _)); refine blk_put (cs := #[.int .i64 0, .int .i64 0, .bool false, .int .i64 0, .int .i64 0, .string (⟨#[]⟩ : ByteArray)]) ?_ 0 _ rfl; (with_reducible repeat (first | refine blk_drewN ?_ _ | refine blk_drew ?_ | refine blk_alloc ?_ _)); exact BK114.out) k_ hk)); (case aO => exact (by (with_reducible repeat (first | apply Kd.R_alloc | apply Kd.R_drewN | apply Kd.R_drew)); exact Kd.R_mono (Kd.R_far (p := ⟨gb114, 5, none⟩) (Kd.R_far (p := ⟨gb114, 4, none⟩) (Kd.R_far (p := ⟨gb114, 3, none⟩) (Kd.R_far (p := ⟨gb114, 2, none⟩) (Kd.R_far (p := ⟨gb114, 1, none⟩) (Kd.R_far (p := ⟨gb114, 0, none⟩) (Kd.R_mono HO_18.out (fun k_ hk => (⟨hk, hk.2⟩ : _ ∧ k_ ≠ gb114))) (fun _ hk => hk.2) (.int .i64 ((rd_T93 l2 x110_4).f0))) (fun _ hk => hk.2) (.int .i64 ((rd_T93 l2 x110_4).f1))) (fun _ hk => hk.2) (.bool ((rd_T93 l2 x110_4).f2))) (fun _ hk => hk.2) (.int .i64 ((rd_T93 l2 x110_4).f3.f0))) (fun _ hk => hk.2) (.int .i64 ((rd_T93 l2 x110_4).f3.f1))) (fun _ hk => hk.2) (.string ((rd_T93 l2 x110_4).f3.f2))) (fun _ hk => hk.1.2))); (case aS => exact (below_size (by repeat (first | (with_reducible first | exact HB.out | apply below_alloc | apply pw_below_drewN | apply below_drew1 | refine below_set ?_ GE114.out) | exact HB.out)))); (case aL => have := LMc60.out; omega); intro v117 w63 ho hb hg hat; rw [← Ny116.out] at ho; have n0_ := Aside0.mk (Kd.R_over' (by (with_reducible repeat (first | apply Kd.R_alloc | apply Kd.R_drewN | apply Kd.R_drew)); exact (Kd.R_mono (Kd.R_far (p := ⟨gb114, 5, none⟩) (Kd.R_far (p := ⟨gb114, 4, none⟩) (Kd.R_far (p := ⟨gb114, 3, none⟩) (Kd.R_far (p := ⟨gb114, 2, none⟩) (Kd.R_far (p := ⟨gb114, 1, none⟩) (Kd.R_far (p := ⟨gb114, 0, none⟩) (Kd.R_types HO_6.out BK114.out (by decide)) (fun _ hk => hk.2) (.int .i64 ((rd_T93 l2 x110_4).f0))) (fun _ hk => hk.2) (.int .i64 ((rd_T93 l2 x110_4).f1))) (fun _ hk => hk.2) (.bool ((rd_T93 l2 x110_4).f2))) (fun _ hk => hk.2) (.int .i64 ((rd_T93 l2 x110_4).f3.f0))) (fun _ hk => hk.2) (.int .i64 ((rd_T93 l2 x110_4).f3.f1))) (fun _ hk => hk.2) (.string ((rd_T93 l2 x110_4).f3.f2))) (fun _ h_ => h_.1))) (Kd.R_typed (by (with_reducible repeat (first | apply Kd.R_alloc | apply Kd.R_drewN | apply Kd.R_drew)); exact (Kd.R_mono (Kd.R_far (p := ⟨gb114, 5, none⟩) (Kd.R_far (p := ⟨gb114, 4, none⟩) (Kd.R_far (p := ⟨gb114, 3, none⟩) (Kd.R_far (p := ⟨gb114, 2, none⟩) (Kd.R_far (p := ⟨gb114, 1, none⟩) (Kd.R_far (p := ⟨gb114, 0, none⟩) (Kd.R_mono HO_18.out (fun k_ hk => (⟨hk, hk.2⟩ : _ ∧ k_ ≠ gb114))) (fun _ hk => hk.2) (.int .i64 ((rd_T93 l2 x110_4).f0))) (fun _ hk => hk.2) (.int .i64 ((rd_T93 l2 x110_4).f1))) (fun _ hk => hk.2) (.bool ((rd_T93 l2 x110_4).f2))) (fun _ hk => hk.2) (.int .i64 ((rd_T93 l2 x110_4).f3.f0))) (fun _ hk => hk.2) (.int .i64 ((rd_T93 l2 x110_4).f3.f1))) (fun _ hk => hk.2) (.string ((rd_T93 l2 x110_4).f3.f2))) (fun _ h_ => h_.1)))) (by decide) hg); have n1_ := Aside0.mk (Kd.S_after (ok := (fun k_ => k_ ≠ gb114)) (by (with_reducible repeat (first | apply Kd.S_alloc | apply Kd.S_drewN | apply Kd.S_drew)); exact Kd.S_mono (Kd.S_far (p := ⟨gb114, 5, none⟩) (Kd.S_far (p := ⟨gb114, 4, none⟩) (Kd.S_far (p := ⟨gb114, 3, none⟩) (Kd.S_far (p := ⟨gb114, 2, none⟩) (Kd.S_far (p := ⟨gb114, 1, none⟩) (Kd.S_far (p := ⟨gb114, 0, none⟩) (Kd.S_mono HO_16.out (fun k_ hk => (⟨hk, hk.2⟩ : _ ∧ k_ ≠ gb114))) (fun _ hk => hk.2) (.int .i64 ((rd_T93 l2 x110_4).f0))) (fun _ hk => hk.2) (.int .i64 ((rd_T93 l2 x110_4).f1))) (fun _ hk => hk.2) (.bool ((rd_T93 l2 x110_4).f2))) (fun _ hk => hk.2) (.int .i64 ((rd_T93 l2 x110_4).f3.f0))) (fun _ hk => hk.2) (.int .i64 ((rd_T93 l2 x110_4).f3.f1))) (fun _ hk => hk.2) (.string ((rd_T93 l2 x110_4).f3.f2))) (fun _ hk => ⟨hk.1.2, hk.1.1⟩)) hg hat); have n2_ := Aside0.mk (blk_grown (g := gb114) (o := .cells #[.int .i64 ((rd_T93 l2 x110_4).f0), .int .i64 ((rd_T93 l2 x110_4).f1), .bool ((rd_T93 l2 x110_4).f2), .int .i64 ((rd_T93 l2 x110_4).f3.f0), .int .i64 ((rd_T93 l2 x110_4).f3.f1), .string ((rd_T93 l2 x110_4).f3.f2)] 93 (0, 0)) (by (with_reducible repeat (first | refine blk_drewN ?_ _ | refine blk_drew ?_ | refine blk_alloc ?_ _)); refine blk_put (cs := #[.int .i64 ((rd_T93 l2 x110_4).f0), .int .i64 ((rd_T93 l2 x110_4).f1), .bool ((rd_T93 l2 x110_4).f2), .int .i64 ((rd_T93 l2 x110_4).f3.f0), .int .i64 ((rd_T93 l2 x110_4).f3.f1), .string (⟨#[]⟩ : ByteArray)]) ?_ 5 _ rfl; (with_reducible repeat (first | refine blk_drewN ?_ _ | refine blk_drew ?_ | refine blk_alloc ?_ _)); refine blk_put (cs := #[.int .i64 ((rd_T93 l2 x110_4).f0), .int .i64 ((rd_T93 l2 x110_4).f1), .bool ((rd_T93 l2 x110_4).f2), .int .i64 ((rd_T93 l2 x110_4).f3.f0), .int .i64 0, .string (⟨#[]⟩ : ByteArray)]) ?_ 4 _ rfl; (with_reducible repeat (first | refine blk_drewN ?_ _ | refine blk_drew ?_ | refine blk_alloc ?_ _)); refine blk_put (cs := #[.int .i64 ((rd_T93 l2 x110_4).f0), .int .i64 ((rd_T93 l2 x110_4).f1), .bool ((rd_T93 l2 x110_4).f2), .int .i64 0, .int .i64 0, .string (⟨#[]⟩ : ByteArray)]) ?_ 3 _ rfl; (with_reducible repeat (first | refine blk_drewN ?_ _ | refine blk_drew ?_ | refine blk_alloc ?_ _)); refine blk_put (cs := #[.int .i64 ((rd_T93 l2 x110_4).f0), .int .i64 ((rd_T93 l2 x110_4).f1), .bool false, .int .i64 0, .int .i64 0, .string (⟨#[]⟩ : ByteArray)]) ?_ 2 _ rfl; (with_reducible repeat (first | refine blk_drewN ?_ _ | refine blk_drew ?_ | refine blk_alloc ?_ _)); refine blk_put (cs := #[.int .i64 ((rd_T93 l2 x110_4).f0), .int .i64 0, .bool false, .int .i64 0, .int .i64 0, .string (⟨#[]⟩ : ByteArray)]) ?_ 1 _ rfl; (with_reducible repeat (first | refine blk_drewN ?_ _ | refine blk_drew ?_ | refine blk_alloc ?_ _)); refine blk_put (cs := #[.int .i64 0, .int .i64 0, .bool false, .int .i64 0, .int .i64 0, .string (⟨#[]⟩ : ByteArray)]) ?_ 0 _ rfl; (with_reducible repeat (first | refine blk_drewN ?_ _ | refine blk_drew ?_ | refine blk_alloc ?_ _)); exact BK114.out) hg (Kd.R_away HO_18.out (fun _ hk => hk.2))); have n3_ := Aside0.mk (hb); have n4_ := Aside0.mk (ho); clear HO_6; clear HO_16; clear BK114; clear HB; clear HO_18; have HO_6 := n0_; have HO_16 := n1_; have BK114 := n2_; have HB := n3_; have HO118 := n4_; clear n0_ n1_ n2_ n3_ n4_; clear ho hb hg hat)); try go_wp2_with (first | ((with_reducible refine gate_dst (N := 20) rfl ?_); refine box_event ?hg (N := 20) ?hd (cs := #[.int .i64 0, .int .i64 0, .bool false, .int .i64 0, .int .i64 0, .string (⟨#[]⟩ : ByteArray)]) (t := 93) ?hr ?_; (case hd => rfl); (case hg => rfl); (case hr => first | (go_simp; done) | (go_simp; rfl)); intro gb114 hg w61 hbox hb; have n0_ := Aside0.mk (Kd.R_below (by (with_reducible repeat (first | apply Kd.R_alloc | apply Kd.R_drewN | apply Kd.R_drew)); exact HO_6.out) hb); have n1_ := Aside0.mk (Kd.S_below (Kd.S_elderB (by (with_reducible repeat (first | apply Kd.S_alloc | apply Kd.S_drewN | apply Kd.S_drew)); exact HO_16.out) gb114 (Nat.le_of_eq hg.symm)) hb); have n2_ := Aside0.mk (Kd.R_below (Kd.R_elderB (by (with_reducible repeat (first | apply Kd.R_alloc | apply Kd.R_drewN | apply Kd.R_drew)); exact HO_18.out) gb114 (Nat.le_of_eq hg.symm)) hb); have n3_ := Aside0.mk (below_step (by repeat (first | (with_reducible first | exact HB.out | apply below_alloc | apply pw_below_drewN | apply below_drew1) | exact HB.out)) hb); have n4_ := Aside0.mk (hbox); have n5_ := Aside0.mk ((by rw [hg]; exact (below_size (by repeat (first | (with_reducible first | exact HB.out | apply below_alloc | apply pw_below_drewN | apply below_drew1) | exact HB.out))) : w.heap.size ≤ gb114)); have n6_ := Aside0.mk ((by rw [hg]; exact (below_size (by repeat (first | (with_reducible first | exact HB.out | apply below_alloc | apply pw_below_drewN | apply below_drew1) | exact HB.out))) : w.heap.size ≤ gb114)); clear HO_6; clear HO_16; clear HO_18; clear HB; have HO_6 := n0_; have HO_16 := n1_; have HO_18 := n2_; have HB := n3_; have BK114 := n4_; have GW114 := n5_; have GE114 := n6_; clear n0_ n1_ n2_ n3_ n4_ n5_ n6_; clear hb hbox hg; have hcz62_0 : w61.cell? ⟨gb114, 0, none⟩ = some (.int .i64 0) := (blk_cell BK114.out 0).trans rfl; have hcz62_1 : w61.cell? ⟨gb114, 1, none⟩ = some (.int .i64 0) := (blk_cell BK114.out 1).trans rfl; have hcz62_2 : w61.cell? ⟨gb114, 2, none⟩ = some (.bool false) := (blk_cell BK114.out 2).trans rfl; have hcz62_3 : w61.cell? ⟨gb114, 3, none⟩ = some (.int .i64 0) := (blk_cell BK114.out 3).trans rfl; have hcz62_4 : w61.cell? ⟨gb114, 4, none⟩ = some (.int .i64 0) := (blk_cell BK114.out 4).trans rfl; have hcz62_5 : w61.cell? ⟨gb114, 5, none⟩ = some (.string (⟨#[]⟩ : ByteArray)) := (blk_cell BK114.out 5).trans rfl; have hfz62_0 := blk_frozen BK114.out 0; have hfz62_1 := blk_frozen BK114.out 1; have hfz62_2 := blk_frozen BK114.out 2; have hfz62_3 := blk_frozen BK114.out 3; have hfz62_4 := blk_frozen BK114.out 4; have hfz62_5 := blk_frozen BK114.out 5; have p115 : 0 ≤ (x110_4 : Int) := of_decide_eq_true (by first | (with_reducible assumption) | assumption); have q115 : x110_4 < (x6_2.length : Int) := of_decide_eq_true (by first | (with_reducible assumption) | assumption); obtain ⟨ad115, e115, hx115_0⟩ := Kd.at_int (Kd.R_reads' HO_6.out).2.2 x110_4 p115 q115; cases e115; have hn115_0 : ad115.block ≠ gb114 := Kd.own_blk (Kd.R_ne HO_6.out BK114.out (by decide)); have hn115_1 : ad115.block ≠ gb114 := Kd.own_blk (Kd.R_ne HO_6.out BK114.out (by decide)); have hn115_2 : ad115.block ≠ gb114 := Kd.own_blk (Kd.R_ne HO_6.out BK114.out (by decide)); have hn115_3 : ad115.block ≠ gb114 := Kd.own_blk (Kd.R_ne HO_6.out BK114.out (by decide)); have hn115_4 : ad115.block ≠ gb114 := Kd.own_blk (Kd.R_ne HO_6.out BK114.out (by decide)); have hn115_5 : ad115.block ≠ gb114 := Kd.own_blk (Kd.R_ne HO_6.out BK114.out (by decide)); have hz115 := hx115_0; replace hx115_0 := (cell_far (p := ⟨gb114, 0, none⟩) (by first | (rw [add_block]; exact hn115_0) | (show (Addr.add _ _).block ≠ _; rw [add_block]; exact hn115_0) | exact hn115_0) (.int .i64 ((rd_T93 l2 x110_4).f0))).trans hx115_0; replace hx115_0 := (cell_far (p := ⟨gb114, 1, none⟩) (by first | (rw [add_block]; exact hn115_1) | (show (Addr.add _ _).block ≠ _; rw [add_block]; exact hn115_1) | exact hn115_1) (.int .i64 ((rd_T93 l2 x110_4).f1))).trans hx115_0; replace hx115_0 := (cell_far (p := ⟨gb114, 2, none⟩) (by first | (rw [add_block]; exact hn115_2) | (show (Addr.add _ _).block ≠ _; rw [add_block]; exact hn115_2) | exact hn115_2) (.bool ((rd_T93 l2 x110_4).f2))).trans hx115_0; replace hx115_0 := (cell_far (p := ⟨gb114, 3, none⟩) (by first | (rw [add_block]; exact hn115_3) | (show (Addr.add _ _).block ≠ _; rw [add_block]; exact hn115_3) | exact hn115_3) (.int .i64 ((rd_T93 l2 x110_4).f3.f0))).trans hx115_0; replace hx115_0 := (cell_far (p := ⟨gb114, 4, none⟩) (by first | (rw [add_block]; exact hn115_4) | (show (Addr.add _ _).block ≠ _; rw [add_block]; exact hn115_4) | exact hn115_4) (.int .i64 ((rd_T93 l2 x110_4).f3.f1))).trans hx115_0; replace hx115_0 := (cell_far (p := ⟨gb114, 5, none⟩) (by first | (rw [add_block]; exact hn115_5) | (show (Addr.add _ _).block ≠ _; rw [add_block]; exact hn115_5) | exact hn115_5) (.string ((rd_T93 l2 x110_4).f3.f2))).trans hx115_0; have hy115_0 := fun (n_ : Nat) => ((cell_far (p := ⟨gb114, 5, none⟩) (by first | (rw [add_block]; exact hn115_5) | (show (Addr.add _ _).block ≠ _; rw [add_block]; exact hn115_5) | exact hn115_5) (.string ((rd_T93 l2 x110_4).f3.f2))).trans ((cell_far (p := ⟨gb114, 4, none⟩) (by first | (rw [add_block]; exact hn115_4) | (show (Addr.add _ _).block ≠ _; rw [add_block]; exact hn115_4) | exact hn115_4) (.int .i64 ((rd_T93 l2 x110_4).f3.f1))).trans ((cell_far (p := ⟨gb114, 3, none⟩) (by first | (rw [add_block]; exact hn115_3) | (show (Addr.add _ _).block ≠ _; rw [add_block]; exact hn115_3) | exact hn115_3) (.int .i64 ((rd_T93 l2 x110_4).f3.f0))).trans ((cell_far (p := ⟨gb114, 2, none⟩) (by first | (rw [add_block]; exact hn115_2) | (show (Addr.add _ _).block ≠ _; rw [add_block]; exact hn115_2) | exact hn115_2) (.bool ((rd_T93 l2 x110_4).f2))).trans ((cell_far (p := ⟨gb114, 1, none⟩) (by first | (rw [add_block]; exact hn115_1) | (show (Addr.add _ _).block ≠ _; rw [add_block]; exact hn115_1) | exact hn115_1) (.int .i64 ((rd_T93 l2 x110_4).f1))).trans ((cell_far (p := ⟨gb114, 0, none⟩) (by first | (rw [add_block]; exact hn115_0) | (show (Addr.add _ _).block ≠ _; rw [add_block]; exact hn115_0) | exact hn115_0) (.int .i64 ((rd_T93 l2 x110_4).f0))).trans (show (w61.drewN n_).cell? _ = some _ from hz115))))))); clear hn115_0; clear hn115_1; clear hn115_2; clear hn115_3; clear hn115_4; clear hn115_5; replace p115 := eq_true p115; replace q115 := eq_true q115) | ((with_reducible refine gate_builtin (b := .append) (xs := #[.tmp 121, .tmp 123]) rfl ?_); at_builtin; refine Kd.R_append k93 (w0 := w) w.heap.size rfl (.tmp 121) (.tmp 123) 91 93 (.agg #[(.int .i64 0), (.int .i64 0), (.bool false), (.int .i64 0), (.int .i64 0), (.string ⟨#[]⟩)]) 56 rfl Try.underlying91 info93 rfl (by decide) (by omega) u18 x18_4 (⟨(rd_T93 l2 x110_4).f0, (rd_T93 l2 x110_4).f1, (rd_T93 l2 x110_4).f2, (⟨(rd_T93 l2 x110_4).f3.f0, (rd_T93 l2 x110_4).f3.f1, (rd_T93 l2 x110_4).f3.f2⟩ : S47)⟩ : S93) [.int .i64 ((rd_T93 l2 x110_4).f0), .int .i64 ((rd_T93 l2 x110_4).f1), .bool ((rd_T93 l2 x110_4).f2), .int .i64 ((rd_T93 l2 x110_4).f3.f0), .int .i64 ((rd_T93 l2 x110_4).f3.f1), .string ((rd_T93 l2 x110_4).f3.f2)] (fun k_ => k_ ≠ gb114) (fun _ => False) rfl (by first | (go_simp; done) | (go_simp; rfl)) ?aP (fun _ hk => hk.elim) ?aF ?aO ?aB ?aS ?aL ?_; (case aP => exact k93_mkM _ _ _ (⟨(rd_T93 l2 x110_4).f0, (rd_T93 l2 x110_4).f1, (rd_T93 l2 x110_4).f2, (⟨(rd_T93 l2 x110_4).f3.f0, (rd_T93 l2 x110_4).f3.f1, (rd_T93 l2 x110_4).f3.f2⟩ : S47)⟩ : S93)); (case aB => exact (by repeat (first | (with_reducible first | exact HB.out | apply below_alloc | apply pw_below_drewN | apply below_drew1 | refine below_set ?_ GE114.out) | exact HB.out))); (case aF => exact (fun k_ hk => Kd.freshB (g := gb114) (o := .cells #[.int .i64 ((rd_T93 l2 x110_4).f0), .int .i64 ((rd_T93 l2 x110_4).f1), .bool ((rd_T93 l2 x110_4).f2), .int .i64 ((rd_T93 l2 x110_4).f3.f0), .int .i64 ((rd_T93 l2 x110_4).f3.f1), .string ((rd_T93 l2 x110_4).f3.f2)] 93 (0, 0)) (by (with_reducible repeat (first | refine blk_drewN ?_ _ | refine blk_drew ?_ | refine blk_alloc ?_ _)); refine blk_put (cs := #[.int .i64 ((rd_T93 l2 x110_4).f0), .int .i64 ((rd_T93 l2 x110_4).f1), .bool ((rd_T93 l2 x110_4).f2), .int .i64 ((rd_T93 l2 x110_4).f3.f0), .int .i64 ((rd_T93 l2 x110_4).f3.f1), .string (⟨#[]⟩ : ByteArray)]) ?_ 5 _ rfl; (with_reducible repeat (first | refine blk_drewN ?_ _ | refine blk_drew ?_ | refine blk_alloc ?_ _)); refine blk_put (cs := #[.int .i64 ((rd_T93 l2 x110_4).f0), .int .i64 ((rd_T93 l2 x110_4).f1), .bool ((rd_T93 l2 x110_4).f2), .int .i64 ((rd_T93 l2 x110_4).f3.f0), .int .i64 0, .string (⟨#[]⟩ : ByteArray)]) ?_ 4 _ rfl; (with_reducible repeat (first | refine blk_drewN ?_ _ | refine blk_drew ?_ | refine blk_alloc ?_ _)); refine blk_put (cs := #[.int .i64 ((rd_T93 l2 x110_4).f0), .int .i64 ((rd_T93 l2 x110_4).f1), .bool ((rd_T93 l2 x110_4).f2), .int .i64 0, .int .i64 0, .string (⟨#[]⟩ : ByteArray)]) ?_ 3 _ rfl; (with_reducible repeat (first | refine blk_drewN ?_ _ | refine blk_drew ?_ | refine blk_alloc ?_ _)); refine blk_put (cs := #[.int .i64 ((rd_T93 l2 x110_4).f0), .int .i64 ((rd_T93 l2 x110_4).f1), .bool false, .int .i64 0, .int .i64 0, .string (⟨#[]⟩ : ByteArray)]) ?_ 2 _ rfl; (with_reducible repeat (first | refine blk_drewN ?_ _ | refine blk_drew ?_ | refine blk_alloc ?_ _)); refine blk_put (cs := #[.int .i64 ((rd_T93 l2 x110_4).f0), .int .i64 0, .bool false, .int .i64 0, .int .i64 0, .string (⟨#[]⟩ : ByteArray)]) ?_ 1 _ rfl; (with_reducible repeat (first | refine blk_drewN ?_ _ | refine blk_drew ?_ | refine blk_alloc ?_ _)); refine blk_put (cs := #[.int .i64 0, .int .i64 0, .bool false, .int .i64 0, .int .i64 0, .string (⟨#[]⟩ : ByteArray)]) ?_ 0 _ rfl; (with_reducible repeat (first | refine blk_drewN ?_ _ | refine blk_drew ?_ | refine blk_alloc ?_ _)); exact BK114.out) k_ hk)); (case aO => exact (by (with_reducible repeat (first | apply Kd.R_alloc | apply Kd.R_drewN | apply Kd.R_drew)); exact Kd.R_mono (Kd.R_far (p := ⟨gb114, 5, none⟩) (Kd.R_far (p := ⟨gb114, 4, none⟩) (Kd.R_far (p := ⟨gb114, 3, none⟩) (Kd.R_far (p := ⟨gb114, 2, none⟩) (Kd.R_far (p := ⟨gb114, 1, none⟩) (Kd.R_far (p := ⟨gb114, 0, none⟩) (Kd.R_mono HO_18.out (fun k_ hk => (⟨hk, hk.2⟩ : _ ∧ k_ ≠ gb114))) (fun _ hk => hk.2) (.int .i64 ((rd_T93 l2 x110_4).f0))) (fun _ hk => hk.2) (.int .i64 ((rd_T93 l2 x110_4).f1))) (fun _ hk => hk.2) (.bool ((rd_T93 l2 x110_4).f2))) (fun _ hk => hk.2) (.int .i64 ((rd_T93 l2 x110_4).f3.f0))) (fun _ hk => hk.2) (.int .i64 ((rd_T93 l2 x110_4).f3.f1))) (fun _ hk => hk.2) (.string ((rd_T93 l2 x110_4).f3.f2))) (fun _ hk => hk.1.2))); (case aS => exact (below_size (by repeat (first | (with_reducible first | exact HB.out | apply below_alloc | apply pw_below_drewN | apply below_drew1 | refine below_set ?_ GE114.out) | exact HB.out)))); (case aL => have := LMc60.out; omega); intro v117 w63 ho hb hg hat; rw [← Ny116.out] at ho; have n0_ := Aside0.mk (Kd.R_over' (by (with_reducible repeat (first | apply Kd.R_alloc | apply Kd.R_drewN | apply Kd.R_drew)); exact (Kd.R_mono (Kd.R_far (p := ⟨gb114, 5, none⟩) (Kd.R_far (p := ⟨gb114, 4, none⟩) (Kd.R_far (p := ⟨gb114, 3, none⟩) (Kd.R_far (p := ⟨gb114, 2, none⟩) (Kd.R_far (p := ⟨gb114, 1, none⟩) (Kd.R_far (p := ⟨gb114, 0, none⟩) (Kd.R_types HO_6.out BK114.out (by decide)) (fun _ hk => hk.2) (.int .i64 ((rd_T93 l2 x110_4).f0))) (fun _ hk => hk.2) (.int .i64 ((rd_T93 l2 x110_4).f1))) (fun _ hk => hk.2) (.bool ((rd_T93 l2 x110_4).f2))) (fun _ hk => hk.2) (.int .i64 ((rd_T93 l2 x110_4).f3.f0))) (fun _ hk => hk.2) (.int .i64 ((rd_T93 l2 x110_4).f3.f1))) (fun _ hk => hk.2) (.string ((rd_T93 l2 x110_4).f3.f2))) (fun _ h_ => h_.1))) (Kd.R_typed (by (with_reducible repeat (first | apply Kd.R_alloc | apply Kd.R_drewN | apply Kd.R_drew)); exact (Kd.R_mono (Kd.R_far (p := ⟨gb114, 5, none⟩) (Kd.R_far (p := ⟨gb114, 4, none⟩) (Kd.R_far (p := ⟨gb114, 3, none⟩) (Kd.R_far (p := ⟨gb114, 2, none⟩) (Kd.R_far (p := ⟨gb114, 1, none⟩) (Kd.R_far (p := ⟨gb114, 0, none⟩) (Kd.R_mono HO_18.out (fun k_ hk => (⟨hk, hk.2⟩ : _ ∧ k_ ≠ gb114))) (fun _ hk => hk.2) (.int .i64 ((rd_T93 l2 x110_4).f0))) (fun _ hk => hk.2) (.int .i64 ((rd_T93 l2 x110_4).f1))) (fun _ hk => hk.2) (.bool ((rd_T93 l2 x110_4).f2))) (fun _ hk => hk.2) (.int .i64 ((rd_T93 l2 x110_4).f3.f0))) (fun _ hk => hk.2) (.int .i64 ((rd_T93 l2 x110_4).f3.f1))) (fun _ hk => hk.2) (.string ((rd_T93 l2 x110_4).f3.f2))) (fun _ h_ => h_.1)))) (by decide) hg); have n1_ := Aside0.mk (Kd.S_after (ok := (fun k_ => k_ ≠ gb114)) (by (with_reducible repeat (first | apply Kd.S_alloc | apply Kd.S_drewN | apply Kd.S_drew)); exact Kd.S_mono (Kd.S_far (p := ⟨gb114, 5, none⟩) (Kd.S_far (p := ⟨gb114, 4, none⟩) (Kd.S_far (p := ⟨gb114, 3, none⟩) (Kd.S_far (p := ⟨gb114, 2, none⟩) (Kd.S_far (p := ⟨gb114, 1, none⟩) (Kd.S_far (p := ⟨gb114, 0, none⟩) (Kd.S_mono HO_16.out (fun k_ hk => (⟨hk, hk.2⟩ : _ ∧ k_ ≠ gb114))) (fun _ hk => hk.2) (.int .i64 ((rd_T93 l2 x110_4).f0))) (fun _ hk => hk.2) (.int .i64 ((rd_T93 l2 x110_4).f1))) (fun _ hk => hk.2) (.bool ((rd_T93 l2 x110_4).f2))) (fun _ hk => hk.2) (.int .i64 ((rd_T93 l2 x110_4).f3.f0))) (fun _ hk => hk.2) (.int .i64 ((rd_T93 l2 x110_4).f3.f1))) (fun _ hk => hk.2) (.string ((rd_T93 l2 x110_4).f3.f2))) (fun _ hk => ⟨hk.1.2, hk.1.1⟩)) hg hat); have n2_ := Aside0.mk (blk_grown (g := gb114) (o := .cells #[.int .i64 ((rd_T93 l2 x110_4).f0), .int .i64 ((rd_T93 l2 x110_4).f1), .bool ((rd_T93 l2 x110_4).f2), .int .i64 ((rd_T93 l2 x110_4).f3.f0), .int .i64 ((rd_T93 l2 x110_4).f3.f1), .string ((rd_T93 l2 x110_4).f3.f2)] 93 (0, 0)) (by (with_reducible repeat (first | refine blk_drewN ?_ _ | refine blk_drew ?_ | refine blk_alloc ?_ _)); refine blk_put (cs := #[.int .i64 ((rd_T93 l2 x110_4).f0), .int .i64 ((rd_T93 l2 x110_4).f1), .bool ((rd_T93 l2 x110_4).f2), .int .i64 ((rd_T93 l2 x110_4).f3.f0), .int .i64 ((rd_T93 l2 x110_4).f3.f1), .string (⟨#[]⟩ : ByteArray)]) ?_ 5 _ rfl; (with_reducible repeat (first | refine blk_drewN ?_ _ | refine blk_drew ?_ | refine blk_alloc ?_ _)); refine blk_put (cs := #[.int .i64 ((rd_T93 l2 x110_4).f0), .int .i64 ((rd_T93 l2 x110_4).f1), .bool ((rd_T93 l2 x110_4).f2), .int .i64 ((rd_T93 l2 x110_4).f3.f0), .int .i64 0, .string (⟨#[]⟩ : ByteArray)]) ?_ 4 _ rfl; (with_reducible repeat (first | refine blk_drewN ?_ _ | refine blk_drew ?_ | refine blk_alloc ?_ _)); refine blk_put (cs := #[.int .i64 ((rd_T93 l2 x110_4).f0), .int .i64 ((rd_T93 l2 x110_4).f1), .bool ((rd_T93 l2 x110_4).f2), .int .i64 0, .int .i64 0, .string (⟨#[]⟩ : ByteArray)]) ?_ 3 _ rfl; (with_reducible repeat (first | refine blk_drewN ?_ _ | refine blk_drew ?_ | refine blk_alloc ?_ _)); refine blk_put (cs := #[.int .i64 ((rd_T93 l2 x110_4).f0), .int .i64 ((rd_T93 l2 x110_4).f1), .bool false, .int .i64 0, .int .i64 0, .string (⟨#[]⟩ : ByteArray)]) ?_ 2 _ rfl; (with_reducible repeat (first | refine blk_drewN ?_ _ | refine blk_drew ?_ | refine blk_alloc ?_ _)); refine blk_put (cs := #[.int .i64 ((rd_T93 l2 x110_4).f0), .int .i64 0, .bool false, .int .i64 0, .int .i64 0, .string (⟨#[]⟩ : ByteArray)]) ?_ 1 _ rfl; (with_reducible repeat (first | refine blk_drewN ?_ _ | refine blk_drew ?_ | refine blk_alloc ?_ _)); refine blk_put (cs := #[.int .i64 0, .int .i64 0, .bool false, .int .i64 0, .int .i64 0, .string (⟨#[]⟩ : ByteArray)]) ?_ 0 _ rfl; (with_reducible repeat (first | refine blk_drewN ?_ _ | refine blk_drew ?_ | refine blk_alloc ?_ _)); exact BK114.out) hg (Kd.R_away HO_18.out (fun _ hk => hk.2))); have n3_ := Aside0.mk (hb); have n4_ := Aside0.mk (ho); clear HO_6; clear HO_16; clear BK114; clear HB; clear HO_18; have HO_6 := n0_; have HO_16 := n1_; have BK114 := n2_; have HB := n3_; have HO118 := n4_; clear n0_ n1_ n2_ n3_ n4_; clear ho hb hg hat)))
                                        go_roundg k4
                                        case measure => have := HK1.out; have := HK2.out; have := HK3.out; have := HK4.out; omega
                                        case rel => exact ⟨(y116), (wrap64 (x110_4 + 1)), (by first | rfl | (simp; done) | (simp [*]; done)), H', ⟨by have := HK1.out; have := HK2.out; have := HK3.out; have := HK4.out; omega⟩, ⟨by (try simp only [hl6_1]); (try simp only [hl6_2]); (with_reducible repeat (first | apply Kd.R_alloc | apply Kd.R_drewN | apply Kd.R_drew)); exact HO_6.out⟩, ⟨by (try simp only [hl6_1]); (try simp only [hl6_2]); (with_reducible repeat (first | apply Kd.S_alloc | apply Kd.S_drewN | apply Kd.S_drew)); exact Kd.S_mono HO_16.out (fun _ hk => hk.2)⟩, ⟨by (try simp only [hl6_1]); (try simp only [hl6_2]); (with_reducible repeat (first | apply Kd.R_alloc | apply Kd.R_drewN | apply Kd.R_drew)); exact Kd.R_mono HO118.out (fun _ hk => trivial)⟩, ⟨fun h_ => absurd h_ (by rw [Ny116.out]; simp)⟩, ⟨by repeat (first | (with_reducible first | exact HB.out | apply below_alloc | apply pw_below_drewN | apply below_drew1 | refine below_set ?_ GE114.out) | exact HB.out)⟩⟩
                                      · rw [if_neg c60] at H
                                        exact absurd H (by simp)
                                    · rw [if_neg c59] at H
                                      have c59b0 : ((rd x6_2 x110_4) == x105_3) = false := beq_eq_false_iff_ne.mpr c59
                                      have c59b1 : ((rd x6_2 x110_4) != x105_3) = true := bne_iff_ne.mpr c59
                                      have H' := Aside0.mk H
                                      clear H
                                      have p113 : 0 ≤ (x110_4 : Int) := of_decide_eq_true (by first | (with_reducible assumption) | assumption)
                                      have q113 : x110_4 < (l2.length : Int) := of_decide_eq_true (by first | (with_reducible assumption) | assumption)
                                      obtain ⟨ad113, e113, hx113_0, hx113_1, hx113_2, hx113_3, hx113_4, hx113_5⟩ := at_T93 HR2.out x110_4 p113 q113
                                      cases e113
                                      replace hx113_0 := (HB.out.cell (World.block_lt_of_cell? w _ hx113_0)).trans hx113_0
                                      replace hx113_1 := (HB.out.cell (World.block_lt_of_cell? w _ hx113_1)).trans hx113_1
                                      replace hx113_2 := (HB.out.cell (World.block_lt_of_cell? w _ hx113_2)).trans hx113_2
                                      replace hx113_3 := (HB.out.cell (World.block_lt_of_cell? w _ hx113_3)).trans hx113_3
                                      replace hx113_4 := (HB.out.cell (World.block_lt_of_cell? w _ hx113_4)).trans hx113_4
                                      replace hx113_5 := (HB.out.cell (World.block_lt_of_cell? w _ hx113_5)).trans hx113_5
                                      replace p113 := eq_true p113
                                      replace q113 := eq_true q113
                                      go_wp2_with (first | ((with_reducible refine gate_dst (N := 20) rfl ?_); refine box_event ?hg (N := 20) ?hd (cs := #[.int .i64 0, .int .i64 0, .bool false, .int .i64 0, .int .i64 0, .string (⟨#[]⟩ : ByteArray)]) (t := 93) ?hr ?_; (case hd => rfl); (case hg => rfl); (case hr => first | (go_simp; done) | (go_simp; rfl)); intro gb114 hg w64 hbox hb; have n0_ := Aside0.mk (Kd.R_below (by (with_reducible repeat (first | apply Kd.R_alloc | apply Kd.R_drewN | apply Kd.R_drew)); exact HO_6.out) hb); have n1_ := Aside0.mk (Kd.S_below (Kd.S_elderB (by (with_reducible repeat (first | apply Kd.S_alloc | apply Kd.S_drewN | apply Kd.S_drew)); exact HO_16.out) gb114 (Nat.le_of_eq hg.symm)) hb); have n2_ := Aside0.mk (Kd.R_below (Kd.R_elderB (by (with_reducible repeat (first | apply Kd.R_alloc | apply Kd.R_drewN | apply Kd.R_drew)); exact HO_18.out) gb114 (Nat.le_of_eq hg.symm)) hb); have n3_ := Aside0.mk (below_step (by repeat (first | (with_reducible first | exact HB.out | apply below_alloc | apply pw_below_drewN | apply below_drew1) | exact HB.out)) hb); have n4_ := Aside0.mk (hbox); have n5_ := Aside0.mk ((by rw [hg]; exact (below_size (by repeat (first | (with_reducible first | exact HB.out | apply below_alloc | apply pw_below_drewN | apply below_drew1) | exact HB.out))) : w.heap.size ≤ gb114)); have n6_ := Aside0.mk ((by rw [hg]; exact (below_size (by repeat (first | (with_reducible first | exact HB.out | apply below_alloc | apply pw_below_drewN | apply below_drew1) | exact HB.out))) : w.heap.size ≤ gb114)); clear HO_6; clear HO_16; clear HO_18; clear HB; have HO_6 := n0_; have HO_16 := n1_; have HO_18 := n2_; have HB := n3_; have BK114 := n4_; have GW114 := n5_; have GE114 := n6_; clear n0_ n1_ n2_ n3_ n4_ n5_ n6_; clear hb hbox hg; have hcz65_0 : w64.cell? ⟨gb114, 0, none⟩ = some (.int .i64 0) := (blk_cell BK114.out 0).trans rfl; have hcz65_1 : w64.cell? ⟨gb114, 1, none⟩ = some (.int .i64 0) := (blk_cell BK114.out 1).trans rfl; have hcz65_2 : w64.cell? ⟨gb114, 2, none⟩ = some (.bool false) := (blk_cell BK114.out 2).trans rfl; have hcz65_3 : w64.cell? ⟨gb114, 3, none⟩ = some (.int .i64 0) := (blk_cell BK114.out 3).trans rfl; have hcz65_4 : w64.cell? ⟨gb114, 4, none⟩ = some (.int .i64 0) := (blk_cell BK114.out 4).trans rfl; have hcz65_5 : w64.cell? ⟨gb114, 5, none⟩ = some (.string (⟨#[]⟩ : ByteArray)) := (blk_cell BK114.out 5).trans rfl; have hfz65_0 := blk_frozen BK114.out 0; have hfz65_1 := blk_frozen BK114.out 1; have hfz65_2 := blk_frozen BK114.out 2; have hfz65_3 := blk_frozen BK114.out 3; have hfz65_4 := blk_frozen BK114.out 4; have hfz65_5 := blk_frozen BK114.out 5; have p115 : 0 ≤ (x110_4 : Int) := of_decide_eq_true (by first | (with_reducible assumption) | assumption); have q115 : x110_4 < (x6_2.length : Int) := of_decide_eq_true (by first | (with_reducible assumption) | assumption); obtain ⟨ad115, e115, hx115_0⟩ := Kd.at_int (Kd.R_reads' HO_6.out).2.2 x110_4 p115 q115; cases e115; have hn115_0 : ad115.block ≠ gb114 := Kd.own_blk (Kd.R_ne HO_6.out BK114.out (by decide)); have hn115_1 : ad115.block ≠ gb114 := Kd.own_blk (Kd.R_ne HO_6.out BK114.out (by decide)); have hn115_2 : ad115.block ≠ gb114 := Kd.own_blk (Kd.R_ne HO_6.out BK114.out (by decide)); have hn115_3 : ad115.block ≠ gb114 := Kd.own_blk (Kd.R_ne HO_6.out BK114.out (by decide)); have hn115_4 : ad115.block ≠ gb114 := Kd.own_blk (Kd.R_ne HO_6.out BK114.out (by decide)); have hn115_5 : ad115.block ≠ gb114 := Kd.own_blk (Kd.R_ne HO_6.out BK114.out (by decide)); have hz115 := hx115_0; replace hx115_0 := (cell_far (p := ⟨gb114, 0, none⟩) (by first | (rw [add_block]; exact hn115_0) | (show (Addr.add _ _).block ≠ _; rw [add_block]; exact hn115_0) | exact hn115_0) (.int .i64 ((rd_T93 l2 x110_4).f0))).trans hx115_0; replace hx115_0 := (cell_far (p := ⟨gb114, 1, none⟩) (by first | (rw [add_block]; exact hn115_1) | (show (Addr.add _ _).block ≠ _; rw [add_block]; exact hn115_1) | exact hn115_1) (.int .i64 ((rd_T93 l2 x110_4).f1))).trans hx115_0; replace hx115_0 := (cell_far (p := ⟨gb114, 2, none⟩) (by first | (rw [add_block]; exact hn115_2) | (show (Addr.add _ _).block ≠ _; rw [add_block]; exact hn115_2) | exact hn115_2) (.bool ((rd_T93 l2 x110_4).f2))).trans hx115_0; replace hx115_0 := (cell_far (p := ⟨gb114, 3, none⟩) (by first | (rw [add_block]; exact hn115_3) | (show (Addr.add _ _).block ≠ _; rw [add_block]; exact hn115_3) | exact hn115_3) (.int .i64 ((rd_T93 l2 x110_4).f3.f0))).trans hx115_0; replace hx115_0 := (cell_far (p := ⟨gb114, 4, none⟩) (by first | (rw [add_block]; exact hn115_4) | (show (Addr.add _ _).block ≠ _; rw [add_block]; exact hn115_4) | exact hn115_4) (.int .i64 ((rd_T93 l2 x110_4).f3.f1))).trans hx115_0; replace hx115_0 := (cell_far (p := ⟨gb114, 5, none⟩) (by first | (rw [add_block]; exact hn115_5) | (show (Addr.add _ _).block ≠ _; rw [add_block]; exact hn115_5) | exact hn115_5) (.string ((rd_T93 l2 x110_4).f3.f2))).trans hx115_0; have hy115_0 := fun (n_ : Nat) => ((cell_far (p := ⟨gb114, 5, none⟩) (by first | (rw [add_block]; exact hn115_5) | (show (Addr.add _ _).block ≠ _; rw [add_block]; exact hn115_5) | exact hn115_5) (.string ((rd_T93 l2 x110_4).f3.f2))).trans ((cell_far (p := ⟨gb114, 4, none⟩) (by first | (rw [add_block]; exact hn115_4) | (show (Addr.add _ _).block ≠ _; rw [add_block]; exact hn115_4) | exact hn115_4) (.int .i64 ((rd_T93 l2 x110_4).f3.f1))).trans ((cell_far (p := ⟨gb114, 3, none⟩) (by first | (rw [add_block]; exact hn115_3) | (show (Addr.add _ _).block ≠ _; rw [add_block]; exact hn115_3) | exact hn115_3) (.int .i64 ((rd_T93 l2 x110_4).f3.f0))).trans ((cell_far (p := ⟨gb114, 2, none⟩) (by first | (rw [add_block]; exact hn115_2) | (show (Addr.add _ _).block ≠ _; rw [add_block]; exact hn115_2) | exact hn115_2) (.bool ((rd_T93 l2 x110_4).f2))).trans ((cell_far (p := ⟨gb114, 1, none⟩) (by first | (rw [add_block]; exact hn115_1) | (show (Addr.add _ _).block ≠ _; rw [add_block]; exact hn115_1) | exact hn115_1) (.int .i64 ((rd_T93 l2 x110_4).f1))).trans ((cell_far (p := ⟨gb114, 0, none⟩) (by first | (rw [add_block]; exact hn115_0) | (show (Addr.add _ _).block ≠ _; rw [add_block]; exact hn115_0) | exact hn115_0) (.int .i64 ((rd_T93 l2 x110_4).f0))).trans (show (w64.drewN n_).cell? _ = some _ from hz115))))))); clear hn115_0; clear hn115_1; clear hn115_2; clear hn115_3; clear hn115_4; clear hn115_5; replace p115 := eq_true p115; replace q115 := eq_true q115))
                                      repeat (go_quiet (first | ((with_reducible refine gate_dst (N := 20) rfl ?_); refine box_event ?hg (N := 20) ?hd (cs := #[.int .i64 0, .int .i64 0, .bool false, .int .i64 0, .int .i64 0, .string (⟨#[]⟩ : ByteArray)]) (t := 93) ?hr ?_; (case hd => rfl); (case hg => rfl); (case hr => first | (go_simp; done) | (go_simp; rfl)); intro gb114 hg w64 hbox hb; have n0_ := Aside0.mk (Kd.R_below (by (with_reducible repeat (first | apply Kd.R_alloc | apply Kd.R_drewN | apply Kd.R_drew)); exact HO_6.out) hb); have n1_ := Aside0.mk (Kd.S_below (Kd.S_elderB (by (with_reducible repeat (first | apply Kd.S_alloc | apply Kd.S_drewN | apply Kd.S_drew)); exact HO_16.out) gb114 (Nat.le_of_eq hg.symm)) hb); have n2_ := Aside0.mk (Kd.R_below (Kd.R_elderB (by (with_reducible repeat (first | apply Kd.R_alloc | apply Kd.R_drewN | apply Kd.R_drew)); exact HO_18.out) gb114 (Nat.le_of_eq hg.symm)) hb); have n3_ := Aside0.mk (below_step (by repeat (first | (with_reducible first | exact HB.out | apply below_alloc | apply pw_below_drewN | apply below_drew1) | exact HB.out)) hb); have n4_ := Aside0.mk (hbox); have n5_ := Aside0.mk ((by rw [hg]; exact (below_size (by repeat (first | (with_reducible first | exact HB.out | apply below_alloc | apply pw_below_drewN | apply below_drew1) | exact HB.out))) : w.heap.size ≤ gb114)); have n6_ := Aside0.mk ((by rw [hg]; exact (below_size (by repeat (first | (with_reducible first | exact HB.out | apply below_alloc | apply pw_below_drewN | apply below_drew1) | exact HB.out))) : w.heap.size ≤ gb114)); clear HO_6; clear HO_16; clear HO_18; clear HB; have HO_6 := n0_; have HO_16 := n1_; have HO_18 := n2_; have HB := n3_; have BK114 := n4_; have GW114 := n5_; have GE114 := n6_; clear n0_ n1_ n2_ n3_ n4_ n5_ n6_; clear hb hbox hg; have hcz65_0 : w64.cell? ⟨gb114, 0, none⟩ = some (.int .i64 0) := (blk_cell BK114.out 0).trans rfl; have hcz65_1 : w64.cell? ⟨gb114, 1, none⟩ = some (.int .i64 0) := (blk_cell BK114.out 1).trans rfl; have hcz65_2 : w64.cell? ⟨gb114, 2, none⟩ = some (.bool false) := (blk_cell BK114.out 2).trans rfl; have hcz65_3 : w64.cell? ⟨gb114, 3, none⟩ = some (.int .i64 0) := (blk_cell BK114.out 3).trans rfl; have hcz65_4 : w64.cell? ⟨gb114, 4, none⟩ = some (.int .i64 0) := (blk_cell BK114.out 4).trans rfl; have hcz65_5 : w64.cell? ⟨gb114, 5, none⟩ = some (.string (⟨#[]⟩ : ByteArray)) := (blk_cell BK114.out 5).trans rfl; have hfz65_0 := blk_frozen BK114.out 0; have hfz65_1 := blk_frozen BK114.out 1; have hfz65_2 := blk_frozen BK114.out 2; have hfz65_3 := blk_frozen BK114.out 3; have hfz65_4 := blk_frozen BK114.out 4; have hfz65_5 := blk_frozen BK114.out 5; have p115 : 0 ≤ (x110_4 : Int) := of_decide_eq_true (by first | (with_reducible assumption) | assumption); have q115 : x110_4 < (x6_2.length : Int) := of_decide_eq_true (by first | (with_reducible assumption) | assumption); obtain ⟨ad115, e115, hx115_0⟩ := Kd.at_int (Kd.R_reads' HO_6.out).2.2 x110_4 p115 q115; cases e115; have hn115_0 : ad115.block ≠ gb114 := Kd.own_blk (Kd.R_ne HO_6.out BK114.out (by decide)); have hn115_1 : ad115.block ≠ gb114 := Kd.own_blk (Kd.R_ne HO_6.out BK114.out (by decide)); have hn115_2 : ad115.block ≠ gb114 := Kd.own_blk (Kd.R_ne HO_6.out BK114.out (by decide)); have hn115_3 : ad115.block ≠ gb114 := Kd.own_blk (Kd.R_ne HO_6.out BK114.out (by decide)); have hn115_4 : ad115.block ≠ gb114 := Kd.own_blk (Kd.R_ne HO_6.out BK114.out (by decide)); have hn115_5 : ad115.block ≠ gb114 := Kd.own_blk (Kd.R_ne HO_6.out BK114.out (by decide)); have hz115 := hx115_0; replace hx115_0 := (cell_far (p := ⟨gb114, 0, none⟩) (by first | (rw [add_block]; exact hn115_0) | (show (Addr.add _ _).block ≠ _; rw [add_block]; exact hn115_0) | exact hn115_0) (.int .i64 ((rd_T93 l2 x110_4).f0))).trans hx115_0; replace hx115_0 := (cell_far (p := ⟨gb114, 1, none⟩) (by first | (rw [add_block]; exact hn115_1) | (show (Addr.add _ _).block ≠ _; rw [add_block]; exact hn115_1) | exact hn115_1) (.int .i64 ((rd_T93 l2 x110_4).f1))).trans hx115_0; replace hx115_0 := (cell_far (p := ⟨gb114, 2, none⟩) (by first | (rw [add_block]; exact hn115_2) | (show (Addr.add _ _).block ≠ _; rw [add_block]; exact hn115_2) | exact hn115_2) (.bool ((rd_T93 l2 x110_4).f2))).trans hx115_0; replace hx115_0 := (cell_far (p := ⟨gb114, 3, none⟩) (by first | (rw [add_block]; exact hn115_3) | (show (Addr.add _ _).block ≠ _; rw [add_block]; exact hn115_3) | exact hn115_3) (.int .i64 ((rd_T93 l2 x110_4).f3.f0))).trans hx115_0; replace hx115_0 := (cell_far (p := ⟨gb114, 4, none⟩) (by first | (rw [add_block]; exact hn115_4) | (show (Addr.add _ _).block ≠ _; rw [add_block]; exact hn115_4) | exact hn115_4) (.int .i64 ((rd_T93 l2 x110_4).f3.f1))).trans hx115_0; replace hx115_0 := (cell_far (p := ⟨gb114, 5, none⟩) (by first | (rw [add_block]; exact hn115_5) | (show (Addr.add _ _).block ≠ _; rw [add_block]; exact hn115_5) | exact hn115_5) (.string ((rd_T93 l2 x110_4).f3.f2))).trans hx115_0; have hy115_0 := fun (n_ : Nat) => ((cell_far (p := ⟨gb114, 5, none⟩) (by first | (rw [add_block]; exact hn115_5) | (show (Addr.add _ _).block ≠ _; rw [add_block]; exact hn115_5) | exact hn115_5) (.string ((rd_T93 l2 x110_4).f3.f2))).trans ((cell_far (p := ⟨gb114, 4, none⟩) (by first | (rw [add_block]; exact hn115_4) | (show (Addr.add _ _).block ≠ _; rw [add_block]; exact hn115_4) | exact hn115_4) (.int .i64 ((rd_T93 l2 x110_4).f3.f1))).trans ((cell_far (p := ⟨gb114, 3, none⟩) (by first | (rw [add_block]; exact hn115_3) | (show (Addr.add _ _).block ≠ _; rw [add_block]; exact hn115_3) | exact hn115_3) (.int .i64 ((rd_T93 l2 x110_4).f3.f0))).trans ((cell_far (p := ⟨gb114, 2, none⟩) (by first | (rw [add_block]; exact hn115_2) | (show (Addr.add _ _).block ≠ _; rw [add_block]; exact hn115_2) | exact hn115_2) (.bool ((rd_T93 l2 x110_4).f2))).trans ((cell_far (p := ⟨gb114, 1, none⟩) (by first | (rw [add_block]; exact hn115_1) | (show (Addr.add _ _).block ≠ _; rw [add_block]; exact hn115_1) | exact hn115_1) (.int .i64 ((rd_T93 l2 x110_4).f1))).trans ((cell_far (p := ⟨gb114, 0, none⟩) (by first | (rw [add_block]; exact hn115_0) | (show (Addr.add _ _).block ≠ _; rw [add_block]; exact hn115_0) | exact hn115_0) (.int .i64 ((rd_T93 l2 x110_4).f0))).trans (show (w64.drewN n_).cell? _ = some _ from hz115))))))); clear hn115_0; clear hn115_1; clear hn115_2; clear hn115_3; clear hn115_4; clear hn115_5; replace p115 := eq_true p115; replace q115 := eq_true q115)); try go_wp2_with (first | ((with_reducible refine gate_dst (N := 20) rfl ?_); refine box_event ?hg (N := 20) ?hd (cs := #[.int .i64 0, .int .i64 0, .bool false, .int .i64 0, .int .i64 0, .string (⟨#[]⟩ : ByteArray)]) (t := 93) ?hr ?_; (case hd => rfl); (case hg => rfl); (case hr => first | (go_simp; done) | (go_simp; rfl)); intro gb114 hg w64 hbox hb; have n0_ := Aside0.mk (Kd.R_below (by (with_reducible repeat (first | apply Kd.R_alloc | apply Kd.R_drewN | apply Kd.R_drew)); exact HO_6.out) hb); have n1_ := Aside0.mk (Kd.S_below (Kd.S_elderB (by (with_reducible repeat (first | apply Kd.S_alloc | apply Kd.S_drewN | apply Kd.S_drew)); exact HO_16.out) gb114 (Nat.le_of_eq hg.symm)) hb); have n2_ := Aside0.mk (Kd.R_below (Kd.R_elderB (by (with_reducible repeat (first | apply Kd.R_alloc | apply Kd.R_drewN | apply Kd.R_drew)); exact HO_18.out) gb114 (Nat.le_of_eq hg.symm)) hb); have n3_ := Aside0.mk (below_step (by repeat (first | (with_reducible first | exact HB.out | apply below_alloc | apply pw_below_drewN | apply below_drew1) | exact HB.out)) hb); have n4_ := Aside0.mk (hbox); have n5_ := Aside0.mk ((by rw [hg]; exact (below_size (by repeat (first | (with_reducible first | exact HB.out | apply below_alloc | apply pw_below_drewN | apply below_drew1) | exact HB.out))) : w.heap.size ≤ gb114)); have n6_ := Aside0.mk ((by rw [hg]; exact (below_size (by repeat (first | (with_reducible first | exact HB.out | apply below_alloc | apply pw_below_drewN | apply below_drew1) | exact HB.out))) : w.heap.size ≤ gb114)); clear HO_6; clear HO_16; clear HO_18; clear HB; have HO_6 := n0_; have HO_16 := n1_; have HO_18 := n2_; have HB := n3_; have BK114 := n4_; have GW114 := n5_; have GE114 := n6_; clear n0_ n1_ n2_ n3_ n4_ n5_ n6_; clear hb hbox hg; have hcz65_0 : w64.cell? ⟨gb114, 0, none⟩ = some (.int .i64 0) := (blk_cell BK114.out 0).trans rfl; have hcz65_1 : w64.cell? ⟨gb114, 1, none⟩ = some (.int .i64 0) := (blk_cell BK114.out 1).trans rfl; have hcz65_2 : w64.cell? ⟨gb114, 2, none⟩ = some (.bool false) := (blk_cell BK114.out 2).trans rfl; have hcz65_3 : w64.cell? ⟨gb114, 3, none⟩ = some (.int .i64 0) := (blk_cell BK114.out 3).trans rfl; have hcz65_4 : w64.cell? ⟨gb114, 4, none⟩ = some (.int .i64 0) := (blk_cell BK114.out 4).trans rfl; have hcz65_5 : w64.cell? ⟨gb114, 5, none⟩ = some (.string (⟨#[]⟩ : ByteArray)) := (blk_cell BK114.out 5).trans rfl; have hfz65_0 := blk_frozen BK114.out 0; have hfz65_1 := blk_frozen BK114.out 1; have hfz65_2 := blk_frozen BK114.out 2; have hfz65_3 := blk_frozen BK114.out 3; have hfz65_4 := blk_frozen BK114.out 4; have hfz65_5 := blk_frozen BK114.out 5; have p115 : 0 ≤ (x110_4 : Int) := of_decide_eq_true (by first | (with_reducible assumption) | assumption); have q115 : x110_4 < (x6_2.length : Int) := of_decide_eq_true (by first | (with_reducible assumption) | assumption); obtain ⟨ad115, e115, hx115_0⟩ := Kd.at_int (Kd.R_reads' HO_6.out).2.2 x110_4 p115 q115; cases e115; have hn115_0 : ad115.block ≠ gb114 := Kd.own_blk (Kd.R_ne HO_6.out BK114.out (by decide)); have hn115_1 : ad115.block ≠ gb114 := Kd.own_blk (Kd.R_ne HO_6.out BK114.out (by decide)); have hn115_2 : ad115.block ≠ gb114 := Kd.own_blk (Kd.R_ne HO_6.out BK114.out (by decide)); have hn115_3 : ad115.block ≠ gb114 := Kd.own_blk (Kd.R_ne HO_6.out BK114.out (by decide)); have hn115_4 : ad115.block ≠ gb114 := Kd.own_blk (Kd.R_ne HO_6.out BK114.out (by decide)); have hn115_5 : ad115.block ≠ gb114 := Kd.own_blk (Kd.R_ne HO_6.out BK114.out (by decide)); have hz115 := hx115_0; replace hx115_0 := (cell_far (p := ⟨gb114, 0, none⟩) (by first | (rw [add_block]; exact hn115_0) | (show (Addr.add _ _).block ≠ _; rw [add_block]; exact hn115_0) | exact hn115_0) (.int .i64 ((rd_T93 l2 x110_4).f0))).trans hx115_0; replace hx115_0 := (cell_far (p := ⟨gb114, 1, none⟩) (by first | (rw [add_block]; exact hn115_1) | (show (Addr.add _ _).block ≠ _; rw [add_block]; exact hn115_1) | exact hn115_1) (.int .i64 ((rd_T93 l2 x110_4).f1))).trans hx115_0; replace hx115_0 := (cell_far (p := ⟨gb114, 2, none⟩) (by first | (rw [add_block]; exact hn115_2) | (show (Addr.add _ _).block ≠ _; rw [add_block]; exact hn115_2) | exact hn115_2) (.bool ((rd_T93 l2 x110_4).f2))).trans hx115_0; replace hx115_0 := (cell_far (p := ⟨gb114, 3, none⟩) (by first | (rw [add_block]; exact hn115_3) | (show (Addr.add _ _).block ≠ _; rw [add_block]; exact hn115_3) | exact hn115_3) (.int .i64 ((rd_T93 l2 x110_4).f3.f0))).trans hx115_0; replace hx115_0 := (cell_far (p := ⟨gb114, 4, none⟩) (by first | (rw [add_block]; exact hn115_4) | (show (Addr.add _ _).block ≠ _; rw [add_block]; exact hn115_4) | exact hn115_4) (.int .i64 ((rd_T93 l2 x110_4).f3.f1))).trans hx115_0; replace hx115_0 := (cell_far (p := ⟨gb114, 5, none⟩) (by first | (rw [add_block]; exact hn115_5) | (show (Addr.add _ _).block ≠ _; rw [add_block]; exact hn115_5) | exact hn115_5) (.string ((rd_T93 l2 x110_4).f3.f2))).trans hx115_0; have hy115_0 := fun (n_ : Nat) => ((cell_far (p := ⟨gb114, 5, none⟩) (by first | (rw [add_block]; exact hn115_5) | (show (Addr.add _ _).block ≠ _; rw [add_block]; exact hn115_5) | exact hn115_5) (.string ((rd_T93 l2 x110_4).f3.f2))).trans ((cell_far (p := ⟨gb114, 4, none⟩) (by first | (rw [add_block]; exact hn115_4) | (show (Addr.add _ _).block ≠ _; rw [add_block]; exact hn115_4) | exact hn115_4) (.int .i64 ((rd_T93 l2 x110_4).f3.f1))).trans ((cell_far (p := ⟨gb114, 3, none⟩) (by first | (rw [add_block]; exact hn115_3) | (show (Addr.add _ _).block ≠ _; rw [add_block]; exact hn115_3) | exact hn115_3) (.int .i64 ((rd_T93 l2 x110_4).f3.f0))).trans ((cell_far (p := ⟨gb114, 2, none⟩) (by first | (rw [add_block]; exact hn115_2) | (show (Addr.add _ _).block ≠ _; rw [add_block]; exact hn115_2) | exact hn115_2) (.bool ((rd_T93 l2 x110_4).f2))).trans ((cell_far (p := ⟨gb114, 1, none⟩) (by first | (rw [add_block]; exact hn115_1) | (show (Addr.add _ _).block ≠ _; rw [add_block]; exact hn115_1) | exact hn115_1) (.int .i64 ((rd_T93 l2 x110_4).f1))).trans ((cell_far (p := ⟨gb114, 0, none⟩) (by first | (rw [add_block]; exact hn115_0) | (show (Addr.add _ _).block ≠ _; rw [add_block]; exact hn115_0) | exact hn115_0) (.int .i64 ((rd_T93 l2 x110_4).f0))).trans (show (w64.drewN n_).cell? _ = some _ from hz115))))))); clear hn115_0; clear hn115_1; clear hn115_2; clear hn115_3; clear hn115_4; clear hn115_5; replace p115 := eq_true p115; replace q115 := eq_true q115)))
                                      go_roundg k4
                                      case measure => have := HK1.out; have := HK2.out; have := HK3.out; have := HK4.out; omega
                                      case rel => exact ⟨(x18_4), (wrap64 (x110_4 + 1)), (by first | rfl | (simp; done) | (simp [*]; done)), H', ⟨by have := HK1.out; have := HK2.out; have := HK3.out; have := HK4.out; omega⟩, ⟨by (try simp only [hl6_1]); (try simp only [hl6_2]); (with_reducible repeat (first | apply Kd.R_alloc | apply Kd.R_drewN | apply Kd.R_drew)); exact Kd.R_mono (Kd.R_far (p := ⟨gb114, 5, none⟩) (Kd.R_far (p := ⟨gb114, 4, none⟩) (Kd.R_far (p := ⟨gb114, 3, none⟩) (Kd.R_far (p := ⟨gb114, 2, none⟩) (Kd.R_far (p := ⟨gb114, 1, none⟩) (Kd.R_far (p := ⟨gb114, 0, none⟩) (Kd.R_types HO_6.out BK114.out (by decide)) (fun _ hk => hk.2) (.int .i64 ((rd_T93 l2 x110_4).f0))) (fun _ hk => hk.2) (.int .i64 ((rd_T93 l2 x110_4).f1))) (fun _ hk => hk.2) (.bool ((rd_T93 l2 x110_4).f2))) (fun _ hk => hk.2) (.int .i64 ((rd_T93 l2 x110_4).f3.f0))) (fun _ hk => hk.2) (.int .i64 ((rd_T93 l2 x110_4).f3.f1))) (fun _ hk => hk.2) (.string ((rd_T93 l2 x110_4).f3.f2))) (fun _ hk => trivial)⟩, ⟨by (try simp only [hl6_1]); (try simp only [hl6_2]); (with_reducible repeat (first | apply Kd.S_alloc | apply Kd.S_drewN | apply Kd.S_drew)); exact Kd.S_mono (Kd.S_far (p := ⟨gb114, 5, none⟩) (Kd.S_far (p := ⟨gb114, 4, none⟩) (Kd.S_far (p := ⟨gb114, 3, none⟩) (Kd.S_far (p := ⟨gb114, 2, none⟩) (Kd.S_far (p := ⟨gb114, 1, none⟩) (Kd.S_far (p := ⟨gb114, 0, none⟩) (Kd.S_mono HO_16.out (fun k_ hk => (⟨hk, hk.2⟩ : _ ∧ k_ ≠ gb114))) (fun _ hk => hk.2) (.int .i64 ((rd_T93 l2 x110_4).f0))) (fun _ hk => hk.2) (.int .i64 ((rd_T93 l2 x110_4).f1))) (fun _ hk => hk.2) (.bool ((rd_T93 l2 x110_4).f2))) (fun _ hk => hk.2) (.int .i64 ((rd_T93 l2 x110_4).f3.f0))) (fun _ hk => hk.2) (.int .i64 ((rd_T93 l2 x110_4).f3.f1))) (fun _ hk => hk.2) (.string ((rd_T93 l2 x110_4).f3.f2))) (fun _ hk => hk.1.1)⟩, ⟨by (try simp only [hl6_1]); (try simp only [hl6_2]); (with_reducible repeat (first | apply Kd.R_alloc | apply Kd.R_drewN | apply Kd.R_drew)); exact Kd.R_mono (Kd.R_far (p := ⟨gb114, 5, none⟩) (Kd.R_far (p := ⟨gb114, 4, none⟩) (Kd.R_far (p := ⟨gb114, 3, none⟩) (Kd.R_far (p := ⟨gb114, 2, none⟩) (Kd.R_far (p := ⟨gb114, 1, none⟩) (Kd.R_far (p := ⟨gb114, 0, none⟩) (Kd.R_mono HO_18.out (fun k_ hk => (⟨hk, hk.2⟩ : _ ∧ k_ ≠ gb114))) (fun _ hk => hk.2) (.int .i64 ((rd_T93 l2 x110_4).f0))) (fun _ hk => hk.2) (.int .i64 ((rd_T93 l2 x110_4).f1))) (fun _ hk => hk.2) (.bool ((rd_T93 l2 x110_4).f2))) (fun _ hk => hk.2) (.int .i64 ((rd_T93 l2 x110_4).f3.f0))) (fun _ hk => hk.2) (.int .i64 ((rd_T93 l2 x110_4).f3.f1))) (fun _ hk => hk.2) (.string ((rd_T93 l2 x110_4).f3.f2))) (fun _ hk => trivial)⟩, HN18, ⟨by repeat (first | (with_reducible first | exact HB.out | apply below_alloc | apply pw_below_drewN | apply below_drew1 | refine below_set ?_ GE114.out) | exact HB.out)⟩⟩
                                  · rw [if_neg c58] at H
                                    exact absurd H (by simp)
                                · rw [if_neg c57] at H
                                  exact absurd H (by simp)
                              · rw [if_neg c56] at H
                                exact absurd H (by simp)
                            · rw [if_neg c55] at H
                              have c55b0 : decide (x110_4 < (l2.length : Int)) = false := decide_eq_false c55
                              clear c55
                              by_cases c66 : (x18_4.length : Int) = 0
                              · rw [if_pos c66] at H
                                have c66b0 : ((x18_4.length : Int) == 0) = true := beq_iff_eq.mpr c66
                                have c66b1 : ((x18_4.length : Int) != 0) = false := bne_eq_false_iff_eq.mpr c66
                                clear c66
                                have H' := Aside0.mk H
                                clear H
                                have h0_ : x18_4 = [] := List.eq_nil_of_length_eq_zero (by have := of_eq_true (eq_true (beq_iff_eq.mp c66b0)); omega)
                                have hn_ := HN18.out h0_
                                subst hn_
                                subst h0_
                                go_wp2
                                repeat (go_quiet (fail); try go_wp2)
                                go_roundg k4
                                case measure => have := HK1.out; have := HK2.out; have := HK3.out; have := HK4.out; omega
                                case rel => exact ⟨(x16_3), (wrap64 (x105_3 + 1)), (by first | rfl | (simp; done) | (simp [*]; done)), H', ⟨by have := HK1.out; have := HK2.out; have := HK3.out; have := HK4.out; omega⟩, ⟨by (try simp only [hl6_1]); (try simp only [hl6_2]); (with_reducible repeat (first | apply Kd.R_alloc | apply Kd.R_drewN | apply Kd.R_drew)); exact HO_6.out⟩, ⟨by (try simp only [hl6_1]); (try simp only [hl6_2]); (with_reducible repeat (first | apply Kd.S_alloc | apply Kd.S_drewN | apply Kd.S_drew)); exact Kd.S_mono HO_16.out (fun _ hk => trivial)⟩, ⟨by repeat (first | (with_reducible first | exact HB.out | apply below_alloc | apply pw_below_drewN | apply below_drew1) | exact HB.out)⟩⟩
                              · rw [if_neg c66] at H
                                have c66b0 : ((x18_4.length : Int) == 0) = false := beq_eq_false_iff_ne.mpr c66
                                have c66b1 : ((x18_4.length : Int) != 0) = true := bne_iff_ne.mpr c66
                                have c66b2 : ¬ (x18_4 = []) := fun h_ => c66 (by rw [h_]; rfl)
                                by_cases c68 : x16_3.length < 5864062014805
                                · rw [if_pos c68] at H
                                  have LMc68 := Aside0.mk c68
                                  clear c68
                                  obtain ⟨y119, hy119⟩ : ∃ y_ : List (List (S93)), y_ = (x16_3 ++ [x18_4]) := ⟨_, rfl⟩
                                  replace H : (rope_groupsV.l5 k4 l2 x6_2 y119 (l2.length : Int) (wrap64 (x105_3 + 1))) = some r := by first | (rw [hy119]; with_reducible exact H) | (have H2_ := (Option.bind_some _ _).symm.trans H; rw [hy119]; with_reducible exact H2_) | (have H2_ := (Option.bind_some _ _).symm.trans H; with_reducible exact H2_) | with_reducible exact H | (rw [hy119]; exact H) | exact H
                                  have Ny119 := Aside0.mk hy119
                                  clear hy119
                                  have H' := Aside0.mk H
                                  clear H
                                  obtain ⟨g69, co69, eo69, _⟩ := Kd.R_form HO_18.out (List.length_pos_iff.mpr c66b2)
                                  skip
                                  have hs69 : (some (⟨g69, 0, none⟩ : Addr)).isSome = true := rfl
                                  subst eo69
                                  go_wp2_with (first | ((with_reducible refine gate_builtin (b := .append) (xs := #[.tmp 128, .tmp 130]) rfl ?_); at_builtin; refine Kd.S_append (Kd.slice 93 k93) (w0 := w) w.heap.size rfl (.tmp 128) (.tmp 130) 94 91 (.slice none 0 0) 24 rfl Try.underlying94 info91 rfl (by decide) (by omega) u16 x16_3 x18_4 [.slice (some ⟨g69, 0, none⟩) x18_4.length co69] (fun _ => True) (fun k_ => some k_ = (.slice (some ⟨g69, 0, none⟩) x18_4.length co69 : Value).ownBlock) rfl rfl ?aP (fun k_ hk_ => ((Kd.R_mono (ok' := fun k_ => ((fun _ => True)) k_ ∧ some k_ ≠ (u16 : Value).ownBlock) (Kd.R_apart' (HO_18.out) (Kd.S_typed HO_16.out) (by decide)) (fun k_ hk => ⟨trivial, hk.2⟩))).1 k_ hk_.symm) ?aF ?aO ?aB ?aS ?aL ?_; (case aP => exact Kd.M_row (Kd.R_mono (Kd.R_tight rfl (Kd.R_mono (ok' := fun k_ => ((fun _ => True)) k_ ∧ some k_ ≠ (u16 : Value).ownBlock) (Kd.R_apart' (HO_18.out) (Kd.S_typed HO_16.out) (by decide)) (fun k_ hk => ⟨trivial, hk.2⟩))) (fun _ h_ => h_))); (case aB => exact (by repeat (first | (with_reducible first | exact HB.out | apply below_alloc | apply pw_below_drewN | apply below_drew1) | exact HB.out))); (case aF => exact (fun _ _ => trivial)); (case aO => exact (by (with_reducible repeat (first | apply Kd.S_alloc | apply Kd.S_drewN | apply Kd.S_drew)); exact Kd.S_mono HO_16.out (fun k_ hk => ⟨trivial, fun e_ => hk e_⟩))); (case aS => exact (below_size (by repeat (first | (with_reducible first | exact HB.out | apply below_alloc | apply pw_below_drewN | apply below_drew1) | exact HB.out)))); (case aL => have := LMc68.out; omega); intro v120 w70 ho hb hg hat; rw [← Ny119.out] at ho; have n0_ := Aside0.mk (Kd.R_over' (by (with_reducible repeat (first | apply Kd.R_alloc | apply Kd.R_drewN | apply Kd.R_drew)); exact HO_6.out) (Kd.S_typed (by (with_reducible repeat (first | apply Kd.S_alloc | apply Kd.S_drewN | apply Kd.S_drew)); exact HO_16.out)) (by decide) hg); have n1_ := Aside0.mk (hb); have n2_ := Aside0.mk (ho); clear HO_6; clear HB; clear HO_16; clear HO_18; have HO_6 := n0_; have HB := n1_; have HO121 := n2_; clear n0_ n1_ n2_; clear ho hb hg hat))
                                  repeat (go_quiet (first | ((with_reducible refine gate_builtin (b := .append) (xs := #[.tmp 128, .tmp 130]) rfl ?_); at_builtin; refine Kd.S_append (Kd.slice 93 k93) (w0 := w) w.heap.size rfl (.tmp 128) (.tmp 130) 94 91 (.slice none 0 0) 24 rfl Try.underlying94 info91 rfl (by decide) (by omega) u16 x16_3 x18_4 [.slice (some ⟨g69, 0, none⟩) x18_4.length co69] (fun _ => True) (fun k_ => some k_ = (.slice (some ⟨g69, 0, none⟩) x18_4.length co69 : Value).ownBlock) rfl rfl ?aP (fun k_ hk_ => ((Kd.R_mono (ok' := fun k_ => ((fun _ => True)) k_ ∧ some k_ ≠ (u16 : Value).ownBlock) (Kd.R_apart' (HO_18.out) (Kd.S_typed HO_16.out) (by decide)) (fun k_ hk => ⟨trivial, hk.2⟩))).1 k_ hk_.symm) ?aF ?aO ?aB ?aS ?aL ?_; (case aP => exact Kd.M_row (Kd.R_mono (Kd.R_tight rfl (Kd.R_mono (ok' := fun k_ => ((fun _ => True)) k_ ∧ some k_ ≠ (u16 : Value).ownBlock) (Kd.R_apart' (HO_18.out) (Kd.S_typed HO_16.out) (by decide)) (fun k_ hk => ⟨trivial, hk.2⟩))) (fun _ h_ => h_))); (case aB => exact (by repeat (first | (with_reducible first | exact HB.out | apply below_alloc | apply pw_below_drewN | apply below_drew1) | exact HB.out))); (case aF => exact (fun _ _ => trivial)); (case aO => exact (by (with_reducible repeat (first | apply Kd.S_alloc | apply Kd.S_drewN | apply Kd.S_drew)); exact Kd.S_mono HO_16.out (fun k_ hk => ⟨trivial, fun e_ => hk e_⟩))); (case aS => exact (below_size (by repeat (first | (with_reducible first | exact HB.out | apply below_alloc | apply pw_below_drewN | apply below_drew1) | exact HB.out)))); (case aL => have := LMc68.out; omega); intro v120 w70 ho hb hg hat; rw [← Ny119.out] at ho; have n0_ := Aside0.mk (Kd.R_over' (by (with_reducible repeat (first | apply Kd.R_alloc | apply Kd.R_drewN | apply Kd.R_drew)); exact HO_6.out) (Kd.S_typed (by (with_reducible repeat (first | apply Kd.S_alloc | apply Kd.S_drewN | apply Kd.S_drew)); exact HO_16.out)) (by decide) hg); have n1_ := Aside0.mk (hb); have n2_ := Aside0.mk (ho); clear HO_6; clear HB; clear HO_16; clear HO_18; have HO_6 := n0_; have HB := n1_; have HO121 := n2_; clear n0_ n1_ n2_; clear ho hb hg hat)); try go_wp2_with (first | ((with_reducible refine gate_builtin (b := .append) (xs := #[.tmp 128, .tmp 130]) rfl ?_); at_builtin; refine Kd.S_append (Kd.slice 93 k93) (w0 := w) w.heap.size rfl (.tmp 128) (.tmp 130) 94 91 (.slice none 0 0) 24 rfl Try.underlying94 info91 rfl (by decide) (by omega) u16 x16_3 x18_4 [.slice (some ⟨g69, 0, none⟩) x18_4.length co69] (fun _ => True) (fun k_ => some k_ = (.slice (some ⟨g69, 0, none⟩) x18_4.length co69 : Value).ownBlock) rfl rfl ?aP (fun k_ hk_ => ((Kd.R_mono (ok' := fun k_ => ((fun _ => True)) k_ ∧ some k_ ≠ (u16 : Value).ownBlock) (Kd.R_apart' (HO_18.out) (Kd.S_typed HO_16.out) (by decide)) (fun k_ hk => ⟨trivial, hk.2⟩))).1 k_ hk_.symm) ?aF ?aO ?aB ?aS ?aL ?_; (case aP => exact Kd.M_row (Kd.R_mono (Kd.R_tight rfl (Kd.R_mono (ok' := fun k_ => ((fun _ => True)) k_ ∧ some k_ ≠ (u16 : Value).ownBlock) (Kd.R_apart' (HO_18.out) (Kd.S_typed HO_16.out) (by decide)) (fun k_ hk => ⟨trivial, hk.2⟩))) (fun _ h_ => h_))); (case aB => exact (by repeat (first | (with_reducible first | exact HB.out | apply below_alloc | apply pw_below_drewN | apply below_drew1) | exact HB.out))); (case aF => exact (fun _ _ => trivial)); (case aO => exact (by (with_reducible repeat (first | apply Kd.S_alloc | apply Kd.S_drewN | apply Kd.S_drew)); exact Kd.S_mono HO_16.out (fun k_ hk => ⟨trivial, fun e_ => hk e_⟩))); (case aS => exact (below_size (by repeat (first | (with_reducible first | exact HB.out | apply below_alloc | apply pw_below_drewN | apply below_drew1) | exact HB.out)))); (case aL => have := LMc68.out; omega); intro v120 w70 ho hb hg hat; rw [← Ny119.out] at ho; have n0_ := Aside0.mk (Kd.R_over' (by (with_reducible repeat (first | apply Kd.R_alloc | apply Kd.R_drewN | apply Kd.R_drew)); exact HO_6.out) (Kd.S_typed (by (with_reducible repeat (first | apply Kd.S_alloc | apply Kd.S_drewN | apply Kd.S_drew)); exact HO_16.out)) (by decide) hg); have n1_ := Aside0.mk (hb); have n2_ := Aside0.mk (ho); clear HO_6; clear HB; clear HO_16; clear HO_18; have HO_6 := n0_; have HB := n1_; have HO121 := n2_; clear n0_ n1_ n2_; clear ho hb hg hat)))
                                  go_roundg k4
                                  case measure => have := HK1.out; have := HK2.out; have := HK3.out; have := HK4.out; omega
                                  case rel => exact ⟨(y119), (wrap64 (x105_3 + 1)), (by first | rfl | (simp; done) | (simp [*]; done)), H', ⟨by have := HK1.out; have := HK2.out; have := HK3.out; have := HK4.out; omega⟩, ⟨by (try simp only [hl6_1]); (try simp only [hl6_2]); (with_reducible repeat (first | apply Kd.R_alloc | apply Kd.R_drewN | apply Kd.R_drew)); exact HO_6.out⟩, ⟨by (try simp only [hl6_1]); (try simp only [hl6_2]); (with_reducible repeat (first | apply Kd.S_alloc | apply Kd.S_drewN | apply Kd.S_drew)); exact HO121.out⟩, ⟨by repeat (first | (with_reducible first | exact HB.out | apply below_alloc | apply pw_below_drewN | apply below_drew1) | exact HB.out)⟩⟩
                                · rw [if_neg c68] at H
                                  exact absurd H (by simp)
                      · rw [if_neg c54] at H
                        have c54b0 : decide (x105_3 < (l2.length : Int)) = false := decide_eq_false c54
                        clear c54
                        obtain rfl := Option.some.inj H
                        have HSR := Aside0.mk (SortW.sort_rows _ _ _ _ HO_16.out HRL.out.2 HRL.out.1)
                        go_wp2_with (go_at_call 67; refine HSR.out.mono ?_; rintro e w9 ⟨rfl, hS9, hg9⟩; have HF9 := Aside0.mk (And.intro hS9 hg9); clear hS9 hg9 HSR)
                        have HO16b := Kd.S_base HO_16.out
                        go_ret
                        exact ⟨_, rfl, Kd.S_lower HF9.out.1 (below_size HB0.out), HB0.out.trans ((HB.out.grown HF9.out.2 (below_size HB.out) HO16b).mono (below_size HB0.out))⟩
    · rw [if_neg c5] at H
      exact absurd H (by simp)
  · rw [if_neg c4] at H
    exact absurd H (by simp)

def rope_groups.f (k : Nat) (l0 : List (S93)) (l1 : List (S93)) : Option (List (List (S93))) :=
  if l0.length + l1.length ≤ 1000 then (rope_groupsV.f k l0 l1 (l0 ++ l1)).bind fun r => if r.length ≤ 100000 ∧ (∀ x ∈ r, 0 < x.length ∧ x.length ≤ 1000000 ∧ ∀ p ∈ x, 0 ≤ p.f0 ∧ p.f0 ≤ p.f1 ∧ p.f1 ≤ 20000) then some (SortW.srtG r) else none else none
theorem rope_groups.calls (k : Nat) (A0 : Option Addr) (c0 : Nat) (l0 : List (S93)) (A1 : Option Addr) (c1 : Nat) (l1 : List (S93)) (r : List (List (S93))) (w : World) (hr0 : Kd.C k93 w A0 l0.length l0) (hc0 : l0.length ≤ c0) (hr1 : Kd.C k93 w A1 l1.length l1) (hc1 : l1.length ≤ c1) (h : rope_groups.f k l0 l1 = some r) :
    Calls Try.prog 55 #[.slice A0 l0.length c0, .slice A1 l1.length c1] w fun e w' => ∃ v0_ : Value, e = .returned v0_ ∧ Kd.S (Kd.slice 93 k93) 91 w' w.heap.size (fun _ => True) v0_ r ∧ Below w.heap.size w w' := by
  unfold rope_groups.f at h
  by_cases c : l0.length + l1.length ≤ 1000
  · rw [if_pos c] at h
    obtain ⟨q, hq, h⟩ := Option.bind_eq_some_iff.mp h
    by_cases d : q.length ≤ 100000 ∧ (∀ x ∈ q, 0 < x.length ∧ x.length ≤ 1000000 ∧ ∀ p ∈ x, 0 ≤ p.f0 ∧ p.f0 ≤ p.f1 ∧ p.f1 ≤ 20000)
    · rw [if_pos d] at h
      injection h with h
      subst h
      exact rope_groupsV.calls k A0 c0 l0 A1 c1 l1 _ q w rfl hr0 hc0 hr1 hc1 c d.1 d.2 hq
    · rw [if_neg d] at h
      cases h
  · rw [if_neg c] at h
    cases h
end Go.Proofs.Ytfllpoonfhiipaa.P

