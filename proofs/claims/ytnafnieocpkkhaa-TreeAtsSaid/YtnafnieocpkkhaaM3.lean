/- What the claim's row needs of the seat's texts, part 3: put together by a program of this session (declarations that no text of the claim names are left out). -/
import Derived.RangeFuncNested
import Derived.RangeFuncBound
import Derived.RangeFuncCalls
import Derived.RangeFuncLeaves
import Derived.Shelf.Abstract
import Derived.Shelf.RegionOpen
import Derived.OwnWalkIn
import Derived.TacticsInMore
import Derived.LoopNIn
import Derived.LoopIn
import Derived.Maps.AppendAt
import Derived.Test.YtnafnieocpkkhaaM2
namespace Go.Proofs.Ytnafnieocpkkhaa.P
open Go.RowKit Go.Proofs.YtnafnieocpkkhaaW.PrintWords Go.Proofs.YtnafnieocpkkhaaW.PrintLast Go.Proofs.YtnafnieocpkkhaaW.PrintMore
attribute [local go_sem] max2_int min2_int max_two min_two max_three min_three max_four min_four
set_option linter.unusedVariables false
set_option linter.unusedSimpArgs false

/-! ### tree_at: function 76 -/
mutual
def tree_at.l0 : Nat → Int → List Int → Int → Int → Int → Int → ByteArray → List (S26) → Option (Int × Int × ByteArray × (List (S26)) × Int × Bool)
 | 0, _, _, _, _, _, _, _, _ => none
 | k + 1, x7, x12, x13, x14, x419000, x419001, x419002, x419003 => if x14 < x13 then (if 0 ≤ x14 then (if x14 < (x12.length : Int) then (if (rd x12 x14) < 0 then (tree_at.j1 k x7 (rd x12 x14) x12 x13 x14 true x419000 x419001 x419002 x419003) else (tree_at.j1 k x7 (rd x12 x14) x12 x13 x14 (decide ((rd x12 x14) ≥ (x419003.length : Int))) x419000 x419001 x419002 x419003)) else (none)) else (none)) else (some (x419000, x419001, x419002, x419003, x7, true))
def tree_at.j1 : Nat → Int → Int → List Int → Int → Int → Bool → Int → Int → ByteArray → List (S26) → Option (Int × Int × ByteArray × (List (S26)) × Int × Bool)
 | 0, _, _, _, _, _, _, _, _, _, _ => none
 | k + 1, x7, x9, x12, x13, x14, x26, x419000, x419001, x419002, x419003 => if x26 = true then (some (0, 0, (⟨#[]⟩ : ByteArray), ([] : List (S26)), 0, false)) else (if 0 ≤ x9 then (if x9 ≤ (x419003.length : Int) then ((some (x419003.take (x9 : Int).toNat : List (S26))).bind fun y421 => (tree_at.l1 k x7 x9 x12 x13 x14 y421 (y421.length : Int) 0 x419000 x419001 x419002 x419003)) else (none)) else (none))
def tree_at.l1 : Nat → Int → Int → List Int → Int → Int → List (S26) → Int → Int → Int → Int → ByteArray → List (S26) → Option (Int × Int × ByteArray × (List (S26)) × Int × Bool)
 | 0, _, _, _, _, _, _, _, _, _, _, _, _ => none
 | k + 1, x7, x9, x12, x13, x14, x31, x32, x33, x419000, x419001, x419002, x419003 => if x33 < x32 then (if 0 ≤ x33 then (if x33 < (x31.length : Int) then ((tree_width.f k ((rd_T26 x31 x33).f0) ((rd_T26 x31 x33).f1.f0) ((rd_T26 x31 x33).f1.f1) ((rd_T26 x31 x33).f2)).bind fun t428 => (tree_at.l1 k (wrap64 (x7 + t428)) x9 x12 x13 x14 x31 x32 (wrap64 (x33 + 1)) x419000 x419001 x419002 x419003)) else (none)) else (none)) else (if 0 ≤ x9 then (if x9 < (x419003.length : Int) then (tree_at.l0 k x7 x12 x13 (wrap64 (x14 + 1)) ((rd_T26 x419003 x9).f0) ((rd_T26 x419003 x9).f1.f0) ((rd_T26 x419003 x9).f1.f1) ((rd_T26 x419003 x9).f2)) else (none)) else (none))
end
def tree_at.f (k : Nat) (a0_0 : Int) (a0_1 : Int) (a0_2 : ByteArray) (l0_3 : List (S26)) (l1 : List Int) : Option (Int × Int × ByteArray × (List (S26)) × Int × Bool) := tree_at.l0 k 0 l1 (l1.length : Int) 0 a0_0 a0_1 a0_2 l0_3
set_option maxHeartbeats 8000000 in
set_option maxRecDepth 100000 in
theorem tree_at.calls (k : Nat) (a0_0 : Int) (a0_1 : Int) (a0_2 : ByteArray) (P0_3_ : Nat → Prop) (A0_3 : Option Addr) (c0_3 : Nat) (l0_3 : List (S26)) (A1 : Option Addr) (c1 : Nat) (l1 : List Int) (r1 : Int) (r2 : Int) (r3 : ByteArray) (r4 : List (S26)) (r5 : Int) (r6 : Bool) (w : World) (hs0_3 : Kd.V k26 26 w w.heap.size (fun k_ => P0_3_ k_) (.slice A0_3 l0_3.length c0_3) l0_3) (hr1 : Kd.C (Kd.int .i64) w A1 l1.length l1) (hc1 : l1.length ≤ c1) (h : tree_at.f k a0_0 a0_1 a0_2 l0_3 l1 = some (r1, r2, r3, r4, r5, r6)) :
  Calls Try.prog 76 #[.agg #[.int .i64 a0_0, .int .i64 a0_1, .string a0_2, .slice A0_3 l0_3.length c0_3], .slice A1 l1.length c1] w fun e w' => ∃ v3_ : Value, e = .returned (.tuple #[.agg #[.int .i64 r1, .int .i64 r2, .string r3, v3_], .int .i64 r5, .bool r6]) ∧ Kd.V k26 26 w' w.heap.size (fun k_ => (P0_3_ k_ ∨ w.heap.size ≤ k_)) v3_ r4 ∧ Below w.heap.size w w' := by
 have hu26 := Try.underlying26; have HO0_3 := Aside0.mk (show Kd.V k26 26 w w.heap.size (fun k_ => (P0_3_ k_ ∨ w.heap.size ≤ k_)) (.slice A0_3 l0_3.length c0_3) l0_3 from Kd.V_mono hs0_3 (fun k_ hk => .inl hk)); have HR1 := Aside0.mk hr1; have HC1 := Aside0.mk hc1; clear hr1 hc1; have HB := Aside0.mk (Below.refl w.heap.size w); have H : (tree_at.l0 k 0 l1 (l1.length : Int) 0 a0_0 a0_1 a0_2 l0_3) = some (r1, r2, r3, r4, r5, r6) := h; clear h; have H' := Aside0.mk H; clear H; go_enter Try.func76, Try.ntmps76
 go_wp2_with (first | ((with_reducible refine zD 2 rfl ?_); (try (refine gate_guard (by rfl) ?_; dsimp only)); refine zx 2 #[.int .i64 a0_0, .int .i64 a0_1, .string a0_2, .slice A0_3 l0_3.length c0_3] 26 ?_; intro gb418 hg w3 hbox hb; replace HO0_3 := Aside0.mk (Kd.V_below (Kd.V_elderB (zV HO0_3) gb418 (Nat.le_of_eq hg.symm)) hb); have BK418 := Aside0.mk (hbox); have GW418 := (zq hg : Aside0 (w.heap.size ≤ gb418)); have GE418 := GW418; replace HB := (zB hb); clear hb hbox hg) | ((with_reducible refine zD 4 rfl ?_); (try (refine gate_guard (by rfl) ?_; dsimp only)); refine zx 4 #[.int .i64 0, .int .i64 0, .string (⟨#[]⟩ : ByteArray), .slice none 0 0] 26 ?_; intro gb419 hg w4 hbox hb; replace HO0_3 := Aside0.mk (Kd.V_below (Kd.V_elderB (zV HO0_3) gb419 (Nat.le_of_eq hg.symm)) hb); have BK419 := Aside0.mk (hbox); have GW419 := (zq hg : Aside0 (w.heap.size ≤ gb419)); have GE419 := GW419; replace HB := (zB hb); have NB418_419 := (zl hg BK418 : Aside0 (gb418 ≠ gb419)); have NB419_418 := (zl' hg BK418 : Aside0 (gb419 ≠ gb418)); replace BK418 := (zK BK418 hb); clear hb hbox hg))
 go_loopg [7, 14] k (fun kq v7 v14 w' => ∃ (x7_1 : Int) (x14_1 : Int) (x419000_1 : Int) (x419001_1 : Int) (x419002_1 : ByteArray) (x419003_1 : List (S26)) (x420000_1 : Int) (x420001_1 : Int) (x420002_1 : ByteArray) (u419003 : Value), v7 = .int .i64 x7_1 ∧ v14 = .int .i64 x14_1 ∧ Aside0 (tree_at.l0 kq x7_1 l1 (l1.length : Int) x14_1 x419000_1 x419001_1 x419002_1 x419003_1 = some (r1, r2, r3, r4, r5, r6)) ∧ Aside0 (kq ≤ k) ∧ Aside0 (Kd.V k26 26 w' w.heap.size (fun k_ => (P0_3_ k_ ∨ w.heap.size ≤ k_) ∧ k_ ≠ gb418 ∧ k_ ≠ gb419) u419003 x419003_1) ∧ Aside0 (w'.heap[gb418]? = some (.cells #[.int .i64 x419000_1, .int .i64 x419001_1, .string x419002_1, u419003] 26 (0, 0))) ∧ Aside0 (w'.heap[gb419]? = some (.cells #[.int .i64 x420000_1, .int .i64 x420001_1, .string x420002_1, (.slice none 0 0)] 26 (0, 0))) ∧ Aside0 (Below w.heap.size w w'))
 case atStart => exact ⟨(0), (0), (a0_0), (a0_1), (a0_2), (l0_3), (0), (0), ((⟨#[]⟩ : ByteArray)), (.slice A0_3 l0_3.length c0_3), zs, zs, H', ⟨Nat.le_refl _⟩, ⟨by (with_reducible repeat (first | apply Kd.V_alloc | apply Kd.V_drewN | apply Kd.V_drew)); exact Kd.V_mono HO0_3.out (fun _ hk => ⟨hk.1.1, ⟨hk.1.2, hk.2⟩⟩)⟩, (zA BK418), (zA BK419), ⟨zb⟩⟩
 case round =>
  clear H'; obtain ⟨x7_1, x14_1, x419000_1, x419001_1, x419002_1, x419003_1, x420000_1, x420001_1, x420002_1, u419003, rfl, rfl, HA, HK1, HO_419003, BK418, BK419, HB⟩ := hrel
  cases gk with
  | zero => exact absurd HA.out (by simp [tree_at.l0])
  | succ k1 =>
   have H := HA.out; clear HA; simp only [tree_at.l0] at H; by_cases c5 : x14_1 < (l1.length : Int)
   ·rw [if_pos c5] at H; have c5b0 := decide_eq_true c5; clear c5; replace H := zi1 H; obtain ⟨c6b0, H⟩ := H; replace H := zi1 H; obtain ⟨c7b0, H⟩ := H; have HC8 := Aside0.mk H; clear H; have p420 : 0 ≤ (x14_1 : Int) := zt; have q420 : x14_1 < (l1.length : Int) := zt; obtain ⟨ad420, e420, hx420_0⟩ := Kd.at_int HR1.out x14_1 p420 q420
    cases e420
    replace hx420_0 := zh HB hx420_0; replace p420 := eq_true p420; replace q420 := eq_true q420
    go_upto_region 5 with (fail)
    go_cut [26] (fun v26 wc => ∃ (kq : Nat) (x26_7 : Bool), v26 = .bool x26_7 ∧ Aside0 (tree_at.j1 kq x7_1 (rd l1 x14_1) l1 (l1.length : Int) x14_1 x26_7 x419000_1 x419001_1 x419002_1 x419003_1 = some (r1, r2, r3, r4, r5, r6)) ∧ Aside0 (kq ≤ k1) ∧ Aside0 (Kd.V k26 26 wc w.heap.size (fun k_ => (P0_3_ k_ ∨ w.heap.size ≤ k_) ∧ k_ ≠ gb418 ∧ k_ ≠ gb419) u419003 x419003_1) ∧ Aside0 (wc.heap[gb418]? = some (.cells #[.int .i64 x419000_1, .int .i64 x419001_1, .string x419002_1, u419003] 26 (0, 0))) ∧ Aside0 (wc.heap[gb419]? = some (.cells #[.int .i64 x420000_1, .int .i64 x420001_1, .string x420002_1, (.slice none 0 0)] 26 (0, 0))) ∧ Aside0 (Below w.heap.size w wc))
    case first =>
     have H := HC8.out; clear HC8; by_cases c9 : (rd l1 x14_1) < 0
     ·rw [if_pos c9] at H; have c9b0 := decide_eq_true c9; clear c9
      (first | rw [c9b0] | (simp only [i64_w, i32_w]; rw [c9b0]) | skip)
      have H' := Aside0.mk H; clear H; go_wp2
      go_meet
      case rel => exact ⟨_, (true), zs, H', zk, ⟨by (with_reducible repeat (first | apply Kd.V_alloc | apply Kd.V_drewN | apply Kd.V_drew)); exact HO_419003.out⟩, (zA BK418), (zA BK419), ⟨zb⟩⟩
     ·rw [if_neg c9] at H; have c9b0 := decide_eq_false c9; clear c9
      (first | rw [c9b0] | (simp only [i64_w, i32_w]; rw [c9b0]) | skip)
      have H' := Aside0.mk H; clear H; have hnb10 := NB418_419.out; have hnc10 := NB419_418.out; obtain ⟨hcz11_0, hcz11_1, hcz11_2, hcz11_3⟩ := zc4 BK418; obtain ⟨hfz11_0, hfz11_1, hfz11_2, hfz11_3⟩ := zz4 BK418; obtain ⟨Ao12, co12, eo12⟩ := Kd.V_slice HO_419003.out; subst eo12; go_wp2
      go_meet
      case rel => exact ⟨_, (decide ((rd l1 x14_1) ≥ (x419003_1.length : Int))), zs, H', zk, ⟨by (with_reducible repeat (first | apply Kd.V_alloc | apply Kd.V_drewN | apply Kd.V_drew)); exact HO_419003.out⟩, (zA BK418), (zA BK419), ⟨zb⟩⟩
    case rest =>
     clear HC8; obtain ⟨kq, x26_7, rfl, HA, HJ7, HO_419003, BK418, BK419, HB⟩ := hcut
     cases kq with
     | zero => exact absurd HA.out (by simp [tree_at.j1])
     | succ kj7 =>
      have H := HA.out; clear HA; simp only [tree_at.j1] at H; by_cases c13 : x26_7 = true
      ·subst c13; rw [if_pos rfl] at H; simp only [Option.some.injEq, Prod.mk.injEq] at H; obtain ⟨rfl, rfl, rfl, rfl, rfl, rfl⟩ := H; have hnb14 := NB419_418.out; have hnc14 := NB418_419.out; obtain ⟨hcz15_0, hcz15_1, hcz15_2, hcz15_3⟩ := zc4 BK419; obtain ⟨hfz15_0, hfz15_1, hfz15_2, hfz15_3⟩ := zz4 BK419; go_wp2; refine bodyPost_ret (results_ctt rfl _ _ gb419 26 #[.int .i64 0, .int .i64 0, .string (⟨#[]⟩ : ByteArray), .slice none 0 0] (0, 0) _ rfl zw Try.underlying26 rfl (by kernel_rfl)) rfl ?_; exact ⟨_, zr, (by first | exact Kd.V_nil _ _ _ _ _ | exact Kd.V_mono (Kd.R_V (by first | exact Kd.R_nil _ _ _ _ _ | exact Kd.N_nil _ _ _ _ _ | exact Kd.V_nil _ _ _ _ _ | exact Kd.Q_nil _ _ _ _ _ | exact Kd.S_nil _ _ _ _ _)) (fun k_ hk => by first | exact ⟨(.inr (hk.1)), hk.2⟩ | exact (.inr (hk)))), zb⟩
      ·replace c13 := Bool.eq_false_iff.mpr c13; subst c13; replace H := zf H; replace H := zi2 H; obtain ⟨c16b0, c16b1, H⟩ := H; replace H := zi2 H; obtain ⟨c17b0, c17b1, H⟩ := H
       obtain ⟨y421, hy421⟩ : ∃ y_ : List (S26), y_ = (x419003_1.take ((rd l1 x14_1) : Int).toNat) := ⟨_, rfl⟩
       replace H : (tree_at.l1 kj7 x7_1 (rd l1 x14_1) l1 (l1.length : Int) x14_1 y421 (y421.length : Int) 0 x419000_1 x419001_1 x419002_1 x419003_1) = some (r1, r2, r3, r4, r5, r6) := by first | (rw [hy421]; with_reducible exact H) | (have H2_ := (Option.bind_some _ _).symm.trans H; rw [hy421]; with_reducible exact H2_) | (have H2_ := (Option.bind_some _ _).symm.trans H; with_reducible exact H2_) | with_reducible exact H | (rw [hy421]; exact H) | exact H
       have Ny421 := Aside0.mk hy421; clear hy421; have H' := Aside0.mk H; clear H; have hnb18 := NB418_419.out; have hnc18 := NB419_418.out; obtain ⟨hcz19_0, hcz19_1, hcz19_2, hcz19_3⟩ := zc4 BK418; obtain ⟨hfz19_0, hfz19_1, hfz19_2, hfz19_3⟩ := zz4 BK418; obtain ⟨Ao21, co21, eo21⟩ := Kd.V_slice HO_419003.out; subst eo21; have q20 : ((rd l1 x14_1) : Int) ≤ ((x419003_1.length : Int) : Int) := zt; obtain ⟨i020, hi020, _, hsz20, _⟩ := info_parts info26; have hroom20 : x419003_1.length ≤ co21 := (Kd.V_reads' HO_419003.out).2.1; have hC20 : Kd.F k26 _ _ Ao21 x419003_1.length x419003_1 := (Kd.V_at (base := w.heap.size) HO_419003.out).2.2; have hcut20 := cut_to (P := Try.prog) 24 26 .i64 Try.underlying24 hi020 Ao21 x419003_1.length co21 (rd l1 x14_1) (zt) q20 hroom20; have hr20 := Kd.F_take (m := ((rd l1 x14_1) : Int).toNat) hC20 (by omega)
       have hy20 : y421.length = ((rd l1 x14_1) : Int).toNat := (by rw [Ny421.out, List.length_take]; omega)
       rw [← Ny421.out] at hr20; rw [← hy20] at hcut20; have HO425 := Aside0.mk (show Kd.V k26 26 _ w.heap.size _ (.slice Ao21 y421.length co21) y421 from Kd.V_mk (by omega) hr20); have HC425 := Aside0.mk (show y421.length ≤ co21 from by omega); clear hr20 hC20 hroom20 hi020 hsz20; have KY20 := Aside0.mk hy20; clear hy20; replace q20 := eq_true q20; go_wp2
       go_loopg [7, 33] kj7 (fun kq v7 v33 w' => ∃ (x7_3 : Int) (x33_3 : Int), v7 = .int .i64 x7_3 ∧ v33 = .int .i64 x33_3 ∧ Aside0 (tree_at.l1 kq x7_3 (rd l1 x14_1) l1 (l1.length : Int) x14_1 y421 (y421.length : Int) x33_3 x419000_1 x419001_1 x419002_1 x419003_1 = some (r1, r2, r3, r4, r5, r6)) ∧ Aside0 (kq ≤ kj7) ∧ Aside0 (Kd.V k26 26 w' w.heap.size (fun k_ => (P0_3_ k_ ∨ w.heap.size ≤ k_) ∧ k_ ≠ gb418 ∧ k_ ≠ gb419) (.slice Ao21 y421.length co21) y421) ∧ Aside0 (Kd.V k26 26 w' w.heap.size (fun k_ => (P0_3_ k_ ∨ w.heap.size ≤ k_) ∧ k_ ≠ gb418 ∧ k_ ≠ gb419) (.slice Ao21 x419003_1.length co21) x419003_1) ∧ Aside0 (w'.heap[gb418]? = some (.cells #[.int .i64 x419000_1, .int .i64 x419001_1, .string x419002_1, (.slice Ao21 x419003_1.length co21)] 26 (0, 0))) ∧ Aside0 (w'.heap[gb419]? = some (.cells #[.int .i64 x420000_1, .int .i64 x420001_1, .string x420002_1, (.slice none 0 0)] 26 (0, 0))) ∧ Aside0 (Below w.heap.size w w'))
       case atStart => exact ⟨(x7_1), (0), zs, zs, H', ⟨Nat.le_refl _⟩, ⟨by (with_reducible repeat (first | apply Kd.V_alloc | apply Kd.V_drewN | apply Kd.V_drew)); exact HO425.out⟩, ⟨by (with_reducible repeat (first | apply Kd.V_alloc | apply Kd.V_drewN | apply Kd.V_drew)); exact HO_419003.out⟩, (zA BK418), (zA BK419), ⟨zb⟩⟩
       case round =>
        clear H'; obtain ⟨x7_3, x33_3, rfl, rfl, HA, HK3, HO_31, HO_419003, BK418, BK419, HB⟩ := hrel
        cases gk with
        | zero => exact absurd HA.out (by simp [tree_at.l1])
        | succ k3 =>
         have H := HA.out; clear HA; simp only [tree_at.l1] at H; by_cases c22 : x33_3 < (y421.length : Int)
         ·rw [if_pos c22] at H; have c22b0 := decide_eq_true c22; clear c22; replace H := zi1 H; obtain ⟨c23b0, H⟩ := H; replace H := zi1 H; obtain ⟨c24b0, H⟩ := H; replace H := zo H; obtain ⟨t428, A25, H⟩ := H; have H' := Aside0.mk H; clear H; have p426 : 0 ≤ (x33_3 : Int) := zt; have q426 : x33_3 < (y421.length : Int) := zt; obtain ⟨ad426, A426_3, c426_3, e426, hx426_0, hx426_1, hx426_2, hx426_3, hl426_3, hi426_3⟩ := at_T26 (Kd.V_reads' HO_31.out).2.2 x33_3 p426 q426
          cases e426
          obtain ⟨ce426, hce426, hMe426, hcc426⟩ := Kd.V_get HO_31.out z26 x33_3 p426 (by first | exact q426 | exact zt | (have e_ := (Kd.V_reads' HO_31.out).1; omega)); obtain ⟨ua426_3, uc426_3, rfl, ul426_3, ge426_3⟩ := k26_openF hMe426; have hv426_3 := hcc426 3 _ rfl; rw [add_field _ _ 3 (by omega)] at hv426_3; replace hv426_3 := Option.some.inj (hv426_3.symm.trans hx426_3); injection hv426_3 with hva_ hvn_ hvc_; rw [hva_] at ge426_3; rw [hvc_] at ul426_3; have HL426_3 := Aside0.mk (show Kd.V k26 26 _ w.heap.size _ _ ((rd_T26 y421 x33_3).f2) from Kd.V_mk ul426_3 ge426_3); clear hva_ hvn_ hvc_ ge426_3 ul426_3 hcc426 hce426; have HR426_3 := Aside0.mk hi426_3; have HC426_3 := Aside0.mk hl426_3; clear hi426_3 hl426_3; replace p426 := eq_true p426; replace q426 := eq_true q426
          go_wp2_with (first | ((with_reducible refine zD 11 rfl ?_); (try (refine gate_guard (by rfl) ?_; dsimp only)); refine zx 11 #[.int .i64 0, .int .i64 0, .string (⟨#[]⟩ : ByteArray), .slice none 0 0] 26 ?_; intro gb427 hg w26 hbox hb; replace HO_31 := Aside0.mk (Kd.V_below (Kd.V_elderB (zV HO_31) gb427 (Nat.le_of_eq hg.symm)) hb); replace HO_419003 := Aside0.mk (Kd.V_below (Kd.V_elderB (zV HO_419003) gb427 (Nat.le_of_eq hg.symm)) hb); replace HL426_3 := Aside0.mk (Kd.V_below (Kd.V_elderB (zV HL426_3) gb427 (Nat.le_of_eq hg.symm)) hb); replace HR426_3 := Aside0.mk (Kd.C_below (zE HR426_3) hb); have BK427 := Aside0.mk (hbox); have GW427 := (zq hg : Aside0 (w.heap.size ≤ gb427)); have GE427 := GW427; replace HB := (zB hb); have NB418_427 := (zl hg BK418 : Aside0 (gb418 ≠ gb427)); have NB427_418 := (zl' hg BK418 : Aside0 (gb427 ≠ gb418)); replace BK418 := (zK BK418 hb); have NB419_427 := (zl hg BK419 : Aside0 (gb419 ≠ gb427)); have NB427_419 := (zl' hg BK419 : Aside0 (gb427 ≠ gb419)); replace BK419 := (zK BK419 hb); clear hb hbox hg; have hnb27 := NB427_418.out; have hnc27 := NB418_427.out; have hnb28 := NB427_419.out; have hnc28 := NB419_427.out; obtain ⟨hcz29_0, hcz29_1, hcz29_2, hcz29_3⟩ := zc4 BK427; obtain ⟨hfz29_0, hfz29_1, hfz29_2, hfz29_3⟩ := zz4 BK427) | ((with_reducible refine zG 55 rfl ?_); refine zg 39 Try.func55 ((tree_width.calls k3 ((rd_T26 y421 x33_3).f0) ((rd_T26 y421 x33_3).f1.f0) ((rd_T26 y421 x33_3).f1.f1) _ _ ((rd_T26 y421 x33_3).f2) t428 _ ?side1 ?side2 A25.out).mono ?_); (case side1 => repeat (first | exact ((Kd.V_reads' (by (with_reducible repeat (first | apply Kd.V_alloc | apply Kd.V_drewN | apply Kd.V_drew)); exact (Kd.V_mono (Kd.V_far (p := ⟨gb427, 3, none⟩) (Kd.V_far (p := ⟨gb427, 2, none⟩) (Kd.V_far (p := ⟨gb427, 1, none⟩) (Kd.V_far (p := ⟨gb427, 0, none⟩) (Kd.V_mono HL426_3.out (fun k_ hk => (⟨hk, hk.2⟩ : _ ∧ k_ ≠ gb427))) (fun _ hk => hk.2) (.int .i64 ((rd_T26 y421 x33_3).f0))) (fun _ hk => hk.2) (.int .i64 ((rd_T26 y421 x33_3).f1.f0))) (fun _ hk => hk.2) (.string ((rd_T26 y421 x33_3).f1.f1))) (fun _ hk => hk.2) (.slice A426_3 ((rd_T26 y421 x33_3).f2).length c426_3)) (fun _ h_ => h_.1)))).2.2) | (with_reducible refine Kd.C_alloc ?_ _) | (with_reducible refine Kd.C_drewN ?_ _) | (with_reducible refine Kd.C_drew ?_))); (case side2 => exact HC426_3.out); rintro e w30 ⟨rfl, hb⟩; refine ⟨_, rfl, ?_⟩; replace HO_31 := Aside0.mk (Kd.V_below (by (with_reducible repeat (first | apply Kd.V_alloc | apply Kd.V_drewN | apply Kd.V_drew)); exact (Kd.V_mono (Kd.V_far (p := ⟨gb427, 3, none⟩) (Kd.V_far (p := ⟨gb427, 2, none⟩) (Kd.V_far (p := ⟨gb427, 1, none⟩) (Kd.V_far (p := ⟨gb427, 0, none⟩) (Kd.V_mono HO_31.out (fun k_ hk => (⟨hk, hk.2⟩ : _ ∧ k_ ≠ gb427))) (fun _ hk => hk.2) (.int .i64 ((rd_T26 y421 x33_3).f0))) (fun _ hk => hk.2) (.int .i64 ((rd_T26 y421 x33_3).f1.f0))) (fun _ hk => hk.2) (.string ((rd_T26 y421 x33_3).f1.f1))) (fun _ hk => hk.2) (.slice A426_3 ((rd_T26 y421 x33_3).f2).length c426_3)) (fun _ h_ => h_.1))) hb); replace HO_419003 := Aside0.mk (Kd.V_below (by (with_reducible repeat (first | apply Kd.V_alloc | apply Kd.V_drewN | apply Kd.V_drew)); exact (Kd.V_mono (Kd.V_far (p := ⟨gb427, 3, none⟩) (Kd.V_far (p := ⟨gb427, 2, none⟩) (Kd.V_far (p := ⟨gb427, 1, none⟩) (Kd.V_far (p := ⟨gb427, 0, none⟩) (Kd.V_mono HO_419003.out (fun k_ hk => (⟨hk, hk.2⟩ : _ ∧ k_ ≠ gb427))) (fun _ hk => hk.2) (.int .i64 ((rd_T26 y421 x33_3).f0))) (fun _ hk => hk.2) (.int .i64 ((rd_T26 y421 x33_3).f1.f0))) (fun _ hk => hk.2) (.string ((rd_T26 y421 x33_3).f1.f1))) (fun _ hk => hk.2) (.slice A426_3 ((rd_T26 y421 x33_3).f2).length c426_3)) (fun _ h_ => h_.1))) hb); replace BK418 := (zw2 gb418 #[.int .i64 x419000_1, .int .i64 x419001_1, .string x419002_1, .slice (some ad426) x419003_1.length co21] 26 hb); replace BK419 := (zw2 gb419 #[.int .i64 x420000_1, .int .i64 x420001_1, .string x420002_1, .slice none 0 0] 26 hb); replace HR426_3 := Aside0.mk (Kd.C_below ((Kd.V_reads' (by (with_reducible repeat (first | apply Kd.V_alloc | apply Kd.V_drewN | apply Kd.V_drew)); exact (Kd.V_mono (Kd.V_far (p := ⟨gb427, 3, none⟩) (Kd.V_far (p := ⟨gb427, 2, none⟩) (Kd.V_far (p := ⟨gb427, 1, none⟩) (Kd.V_far (p := ⟨gb427, 0, none⟩) (Kd.V_mono HL426_3.out (fun k_ hk => (⟨hk, hk.2⟩ : _ ∧ k_ ≠ gb427))) (fun _ hk => hk.2) (.int .i64 ((rd_T26 y421 x33_3).f0))) (fun _ hk => hk.2) (.int .i64 ((rd_T26 y421 x33_3).f1.f0))) (fun _ hk => hk.2) (.string ((rd_T26 y421 x33_3).f1.f1))) (fun _ hk => hk.2) (.slice A426_3 ((rd_T26 y421 x33_3).f2).length c426_3)) (fun _ h_ => h_.1)))).2.2) hb); replace HL426_3 := Aside0.mk (Kd.V_below (by (with_reducible repeat (first | apply Kd.V_alloc | apply Kd.V_drewN | apply Kd.V_drew)); exact (Kd.V_mono (Kd.V_far (p := ⟨gb427, 3, none⟩) (Kd.V_far (p := ⟨gb427, 2, none⟩) (Kd.V_far (p := ⟨gb427, 1, none⟩) (Kd.V_far (p := ⟨gb427, 0, none⟩) (Kd.V_mono HL426_3.out (fun k_ hk => (⟨hk, hk.2⟩ : _ ∧ k_ ≠ gb427))) (fun _ hk => hk.2) (.int .i64 ((rd_T26 y421 x33_3).f0))) (fun _ hk => hk.2) (.int .i64 ((rd_T26 y421 x33_3).f1.f0))) (fun _ hk => hk.2) (.string ((rd_T26 y421 x33_3).f1.f1))) (fun _ hk => hk.2) (.slice A426_3 ((rd_T26 y421 x33_3).f2).length c426_3)) (fun _ h_ => h_.1))) hb); replace BK427 := (zw2 gb427 #[.int .i64 ((rd_T26 y421 x33_3).f0), .int .i64 ((rd_T26 y421 x33_3).f1.f0), .string ((rd_T26 y421 x33_3).f1.f1), .slice A426_3 ((rd_T26 y421 x33_3).f2).length c426_3] 26 hb); replace HB := (zB hb); (try clear hb); (try clear hb2); (try clear hk); (try clear hi)))
          go_roundg k3
          case measure => have := HK1.out; have := HJ7.out; have := HK3.out; omega
          case rel => exact ⟨(wrap64 (x7_3 + t428)), (wrap64 (x33_3 + 1)), zs, zs, H', ⟨by have := HK1.out; have := HJ7.out; have := HK3.out; omega⟩, ⟨by (with_reducible repeat (first | apply Kd.V_alloc | apply Kd.V_drewN | apply Kd.V_drew)); exact Kd.V_mono HO_31.out (fun _ hk => ⟨hk.1.1, ⟨hk.1.2.1, hk.1.2.2⟩⟩)⟩, ⟨by (with_reducible repeat (first | apply Kd.V_alloc | apply Kd.V_drewN | apply Kd.V_drew)); exact Kd.V_mono HO_419003.out (fun _ hk => ⟨hk.1.1, ⟨hk.1.2.1, hk.1.2.2⟩⟩)⟩, (zA BK418), (zA BK419), ⟨zb⟩⟩
         ·rw [if_neg c22] at H; have c22b0 := decide_eq_false c22; clear c22; replace H := zi1 H; obtain ⟨c31b0, H⟩ := H; replace H := zi1 H; obtain ⟨c32b0, H⟩ := H; have H' := Aside0.mk H; clear H; have hnb33 := NB418_419.out; have hnc33 := NB419_418.out; obtain ⟨hcz34_0, hcz34_1, hcz34_2, hcz34_3⟩ := zc4 BK418; obtain ⟨hfz34_0, hfz34_1, hfz34_2, hfz34_3⟩ := zz4 BK418; have p429 : 0 ≤ ((rd l1 x14_1) : Int) := zt; have q429 : (rd l1 x14_1) < (x419003_1.length : Int) := zt; obtain ⟨ad429, A429_3, c429_3, e429, hx429_0, hx429_1, hx429_2, hx429_3, hl429_3, hi429_3⟩ := at_T26 (Kd.V_reads' HO_419003.out).2.2 (rd l1 x14_1) p429 q429
          cases e429
          obtain ⟨ce429, hce429, hMe429, hcc429⟩ := Kd.V_get HO_419003.out z26 (rd l1 x14_1) p429 (by first | exact q429 | exact zt | (have e_ := (Kd.V_reads' HO_419003.out).1; omega)); obtain ⟨ua429_3, uc429_3, rfl, ul429_3, ge429_3⟩ := k26_openF hMe429; have hv429_3 := hcc429 3 _ rfl; rw [add_field _ _ 3 (by omega)] at hv429_3; replace hv429_3 := Option.some.inj (hv429_3.symm.trans hx429_3); injection hv429_3 with hva_ hvn_ hvc_; rw [hva_] at ge429_3; rw [hvc_] at ul429_3; have HL429_3 := Aside0.mk (show Kd.V k26 26 _ w.heap.size _ _ ((rd_T26 x419003_1 (rd l1 x14_1)).f2) from Kd.V_mk ul429_3 ge429_3); clear hva_ hvn_ hvc_ ge429_3 ul429_3 hcc429 hce429; have HR429_3 := Aside0.mk hi429_3; have HC429_3 := Aside0.mk hl429_3; clear hi429_3 hl429_3; replace p429 := eq_true p429; replace q429 := eq_true q429; go_wp2
          go_roundg k3
          case measure => have := HK1.out; have := HJ7.out; have := HK3.out; omega
          case rel => exact ⟨(x7_3), (wrap64 (x14_1 + 1)), ((rd_T26 x419003_1 (rd l1 x14_1)).f0), ((rd_T26 x419003_1 (rd l1 x14_1)).f1.f0), ((rd_T26 x419003_1 (rd l1 x14_1)).f1.f1), ((rd_T26 x419003_1 (rd l1 x14_1)).f2), (x420000_1), (x420001_1), (x420002_1), (.slice A429_3 ((rd_T26 x419003_1 (rd l1 x14_1)).f2).length c429_3), zs, zs, H', ⟨by have := HK1.out; have := HJ7.out; have := HK3.out; omega⟩, ⟨by (with_reducible repeat (first | apply Kd.V_alloc | apply Kd.V_drewN | apply Kd.V_drew)); exact Kd.V_mono (Kd.V_far (p := ⟨gb418, 3, none⟩) (Kd.V_far (p := ⟨gb418, 2, none⟩) (Kd.V_far (p := ⟨gb418, 1, none⟩) (Kd.V_far (p := ⟨gb418, 0, none⟩) (Kd.V_mono HL429_3.out (fun k_ hk => (⟨hk, hk.2.1⟩ : _ ∧ k_ ≠ gb418))) (fun _ hk => hk.2) (.int .i64 ((rd_T26 x419003_1 (rd l1 x14_1)).f0))) (fun _ hk => hk.2) (.int .i64 ((rd_T26 x419003_1 (rd l1 x14_1)).f1.f0))) (fun _ hk => hk.2) (.string ((rd_T26 x419003_1 (rd l1 x14_1)).f1.f1))) (fun _ hk => hk.2) (.slice A429_3 ((rd_T26 x419003_1 (rd l1 x14_1)).f2).length c429_3)) (fun _ hk => ⟨hk.1.1, ⟨hk.1.2.1, hk.1.2.2⟩⟩)⟩, ⟨zw⟩, ⟨zw⟩, ⟨zb⟩⟩
   ·rw [if_neg c5] at H; have c5b0 := decide_eq_false c5; clear c5; simp only [Option.some.injEq, Prod.mk.injEq] at H; obtain ⟨rfl, rfl, rfl, rfl, rfl, rfl⟩ := H; have hnb35 := NB418_419.out; have hnc35 := NB419_418.out; obtain ⟨hcz36_0, hcz36_1, hcz36_2, hcz36_3⟩ := zc4 BK418; obtain ⟨hfz36_0, hfz36_1, hfz36_2, hfz36_3⟩ := zz4 BK418; obtain ⟨hcz37_0, hcz37_1, hcz37_2, hcz37_3⟩ := zc4 BK419; obtain ⟨hfz37_0, hfz37_1, hfz37_2, hfz37_3⟩ := zz4 BK419; obtain ⟨Ao38, co38, eo38⟩ := Kd.V_slice HO_419003.out; subst eo38; go_wp2; refine bodyPost_ret (results_ctt rfl _ _ gb419 26 #[.int .i64 x419000_1, .int .i64 x419001_1, .string x419002_1, .slice Ao38 x419003_1.length co38] (0, 0) _ rfl zw Try.underlying26 rfl (by kernel_rfl)) rfl ?_; exact ⟨_, zr, by (with_reducible repeat (first | apply Kd.V_alloc | apply Kd.V_drewN | apply Kd.V_drew)); exact Kd.V_mono (Kd.V_far (p := ⟨gb419, 3, none⟩) (Kd.V_far (p := ⟨gb419, 2, none⟩) (Kd.V_far (p := ⟨gb419, 1, none⟩) (Kd.V_far (p := ⟨gb419, 0, none⟩) (Kd.V_mono HO_419003.out (fun k_ hk => (⟨hk, hk.2.2⟩ : _ ∧ k_ ≠ gb419))) (fun _ hk => hk.2) (.int .i64 x419000_1)) (fun _ hk => hk.2) (.int .i64 x419001_1)) (fun _ hk => hk.2) (.string x419002_1)) (fun _ hk => hk.2) (.slice Ao38 x419003_1.length co38)) (fun _ hk => hk.1.1), zb⟩

end Go.Proofs.Ytnafnieocpkkhaa.P

namespace Go.Proofs.Ytnafnieocpkkhaa.P
open Go.RowKit Go.Proofs.YtnafnieocpkkhaaW.PrintWords Go.Proofs.YtnafnieocpkkhaaW.PrintLast Go.Proofs.YtnafnieocpkkhaaW.PrintMore
attribute [local go_sem] max2_int min2_int max_two min_two max_three min_three max_four min_four
set_option linter.unusedVariables false
set_option linter.unusedSimpArgs false

/-! ### tree_find: function 79 -/
def tree_find.f (k : Nat) (a0_0 : Int) (a0_1 : Int) (a0_2 : ByteArray) (l0_3 : List (S26)) (l1 : List Int) : Option (Int × Int × ByteArray × (List (S26)) × Int × Int) := (tree_IsFormed.f k a0_0 a0_1 a0_2 l0_3).bind fun t537 => (if t537 = true then ((tree_at.f k a0_0 a0_1 a0_2 l0_3 l1).bind fun bt538 => (if bt538.2.2.2.2.2 = true then (some (bt538.1, bt538.2.1, bt538.2.2.1, bt538.2.2.2.1, bt538.2.2.2.2.1, 0)) else (some (0, 0, (⟨#[]⟩ : ByteArray), ([] : List (S26)), 0, 2)))) else (some (0, 0, (⟨#[]⟩ : ByteArray), ([] : List (S26)), 0, 4)))
set_option maxHeartbeats 8000000 in
set_option maxRecDepth 100000 in
theorem tree_find.calls (k : Nat) (a0_0 : Int) (a0_1 : Int) (a0_2 : ByteArray) (P0_3_ : Nat → Prop) (A0_3 : Option Addr) (c0_3 : Nat) (l0_3 : List (S26)) (A1 : Option Addr) (c1 : Nat) (l1 : List Int) (r1 : Int) (r2 : Int) (r3 : ByteArray) (r4 : List (S26)) (r5 : Int) (r6 : Int) (w : World) (hs0_3 : Kd.V k26 26 w w.heap.size (fun k_ => P0_3_ k_) (.slice A0_3 l0_3.length c0_3) l0_3) (hr1 : Kd.C (Kd.int .i64) w A1 l1.length l1) (hc1 : l1.length ≤ c1) (h : tree_find.f k a0_0 a0_1 a0_2 l0_3 l1 = some (r1, r2, r3, r4, r5, r6)) :
  Calls Try.prog 79 #[.agg #[.int .i64 a0_0, .int .i64 a0_1, .string a0_2, .slice A0_3 l0_3.length c0_3], .slice A1 l1.length c1] w fun e w' => ∃ v3_ : Value, e = .returned (.tuple #[.agg #[.int .i64 r1, .int .i64 r2, .string r3, v3_], .int .i64 r5, .int .i64 r6]) ∧ Kd.V k26 26 w' w.heap.size (fun k_ => (P0_3_ k_ ∨ w.heap.size ≤ k_)) v3_ r4 ∧ Below w.heap.size w w' := by
 have hu26 := Try.underlying26; have HO0_3 := Aside0.mk (show Kd.V k26 26 w w.heap.size (fun k_ => (P0_3_ k_ ∨ w.heap.size ≤ k_)) (.slice A0_3 l0_3.length c0_3) l0_3 from Kd.V_mono hs0_3 (fun k_ hk => .inl hk)); have HR1 := Aside0.mk hr1; have HC1 := Aside0.mk hc1; clear hr1 hc1; have HB := Aside0.mk (Below.refl w.heap.size w); have H : ((tree_IsFormed.f k a0_0 a0_1 a0_2 l0_3).bind fun t537 => (if t537 = true then ((tree_at.f k a0_0 a0_1 a0_2 l0_3 l1).bind fun bt538 => (if bt538.2.2.2.2.2 = true then (some (bt538.1, bt538.2.1, bt538.2.2.1, bt538.2.2.2.1, bt538.2.2.2.2.1, 0)) else (some (0, 0, (⟨#[]⟩ : ByteArray), ([] : List (S26)), 0, 2)))) else (some (0, 0, (⟨#[]⟩ : ByteArray), ([] : List (S26)), 0, 4)))) = some (r1, r2, r3, r4, r5, r6) := h; clear h; replace H := zo H; obtain ⟨t537, A3, H⟩ := H; by_cases c4 : t537 = true
 ·subst c4; rw [if_pos rfl] at H; replace H := Option.bind_eq_some_iff.mp H; obtain ⟨⟨t538, t539, t540, t541, t544, t545⟩, A50, H⟩ := H; replace H : (if t545 = true then (some (t538, t539, t540, t541, t544, 0)) else (some (0, 0, (⟨#[]⟩ : ByteArray), ([] : List (S26)), 0, 2))) = some (r1, r2, r3, r4, r5, r6) := H; have A5 := Aside0.mk A50; clear A50; by_cases c6 : t545 = true
  ·subst c6; rw [if_pos rfl] at H; simp only [Option.some.injEq, Prod.mk.injEq] at H; obtain ⟨rfl, rfl, rfl, rfl, rfl, rfl⟩ := H; go_enter Try.func79, Try.ntmps79
   go_wp2_with (first | ((with_reducible refine zD 2 rfl ?_); refine zx 2 #[.int .i64 a0_0, .int .i64 a0_1, .string a0_2, .slice A0_3 l0_3.length c0_3] 26 ?_; intro gb535 hg w7 hbox hb; replace HO0_3 := Aside0.mk (Kd.V_below (Kd.V_elderB (zV HO0_3) gb535 (Nat.le_of_eq hg.symm)) hb); have BK535 := Aside0.mk (hbox); have GW535 := (zq hg : Aside0 (w.heap.size ≤ gb535)); have GE535 := GW535; replace HB := (zB hb); clear hb hbox hg) | ((with_reducible refine zD 4 rfl ?_); refine zx 4 #[.int .i64 0, .int .i64 0, .string (⟨#[]⟩ : ByteArray), .slice none 0 0] 26 ?_; intro gb536 hg w8 hbox hb; replace HO0_3 := Aside0.mk (Kd.V_below (Kd.V_elderB (zV HO0_3) gb536 (Nat.le_of_eq hg.symm)) hb); have BK536 := Aside0.mk (hbox); have GW536 := (zq hg : Aside0 (w.heap.size ≤ gb536)); have GE536 := GW536; replace HB := (zB hb); have NB535_536 := (zl hg BK535 : Aside0 (gb535 ≠ gb536)); have NB536_535 := (zl' hg BK535 : Aside0 (gb536 ≠ gb535)); replace BK535 := (zK BK535 hb); clear hb hbox hg; have hnb9 := NB535_536.out; have hnc9 := NB536_535.out; obtain ⟨hcz10_0, hcz10_1, hcz10_2, hcz10_3⟩ := zc4 BK535; obtain ⟨hfz10_0, hfz10_1, hfz10_2, hfz10_3⟩ := zz4 BK535) | ((with_reducible refine zG 30 rfl ?_); refine zg 11 Try.func30 ((tree_IsFormed.calls k a0_0 a0_1 a0_2 _ _ l0_3 true _ ?side1 ?side2 A3.out).mono ?_); (case side1 => exact zE' (Kd.V_reads' HO0_3.out).2.2); (case side2 => exact (Kd.V_reads' HO0_3.out).2.1); rintro e w11 ⟨rfl, hb⟩; refine ⟨_, rfl, ?_⟩; replace HO0_3 := (zVb HO0_3 hb); replace BK535 := (zK BK535 hb); replace BK536 := (zK BK536 hb); replace HB := (zB hb); (try clear hb); (try clear hb2); (try clear hk); (try clear hi); obtain ⟨hcz12_0, hcz12_1, hcz12_2, hcz12_3⟩ := zc4 BK535; obtain ⟨hfz12_0, hfz12_1, hfz12_2, hfz12_3⟩ := zz4 BK535) | ((with_reducible refine zG 76 rfl ?_); refine zg 17 Try.func76 ((tree_at.calls k a0_0 a0_1 a0_2 (fun k_ => (((P0_3_ k_ ∨ w.heap.size ≤ k_) ∧ k_ ≠ gb535) ∧ k_ ≠ gb536)) _ _ l0_3 _ _ l1 t538 t539 t540 t541 t544 true _ ?side1 ?side2 ?side3 A5.out).mono ?_); (case side1 => exact HO0_3.out); (case side2 => exact zC HR1); (case side3 => exact HC1.out); rintro e w13 ⟨v542, rfl, ho0, hb⟩; refine ⟨_, rfl, ?_⟩; replace HO0_3 := (zVb HO0_3 hb); have HO543 := Aside0.mk (Kd.V_lower (Kd.V_mono (ok' := fun k_ => (P0_3_ k_ ∨ w.heap.size ≤ k_) ∧ k_ ≠ gb535 ∧ k_ ≠ gb536) ho0 (fun k_ hk_ => ⟨Or.elim hk_ (fun hs_ => hs_.1.1) (fun hn_ => (.inr (Nat.le_trans (below_size zb) hn_))), Or.elim hk_ (fun hs_ => hs_.1.2) (fun hn_ => (Kd.freshB (g := gb535) (o := .cells #[.int .i64 a0_0, .int .i64 a0_1, .string a0_2, .slice A0_3 l0_3.length c0_3] 26 (0, 0)) (Cl.blk BK535.out) k_ hn_)), Or.elim hk_ (fun hs_ => hs_.2) (fun hn_ => (Kd.freshB (g := gb536) (o := .cells #[.int .i64 0, .int .i64 0, .string (⟨#[]⟩ : ByteArray), .slice none 0 0] 26 (0, 0)) (Cl.blk BK536.out) k_ hn_))⟩)) (below_size zb)); replace BK535 := (zK BK535 hb); replace BK536 := (zK BK536 hb); replace HB := (zB hb); (try clear hb); (try clear hb2); (try clear hk); (try clear hi); (try clear ho0)) | ((with_reducible refine zD 7 rfl ?_); refine zx 7 #[.int .i64 0, .int .i64 0, .string (⟨#[]⟩ : ByteArray), .slice none 0 0] 26 ?_; intro gb546 hg w14 hbox hb; replace HO0_3 := Aside0.mk (Kd.V_below (Kd.V_elderB (zV HO0_3) gb546 (Nat.le_of_eq hg.symm)) hb); replace HO543 := Aside0.mk (Kd.V_below (Kd.V_elderB (zV HO543) gb546 (Nat.le_of_eq hg.symm)) hb); have BK546 := Aside0.mk (hbox); have GW546 := (zq hg : Aside0 (w.heap.size ≤ gb546)); have GE546 := GW546; replace HB := (zB hb); have NB535_546 := (zl hg BK535 : Aside0 (gb535 ≠ gb546)); have NB546_535 := (zl' hg BK535 : Aside0 (gb546 ≠ gb535)); replace BK535 := (zK BK535 hb); have NB536_546 := (zl hg BK536 : Aside0 (gb536 ≠ gb546)); have NB546_536 := (zl' hg BK536 : Aside0 (gb546 ≠ gb536)); replace BK536 := (zK BK536 hb); clear hb hbox hg; have hnb15 := NB546_535.out; have hnc15 := NB535_546.out; have hnb16 := NB546_536.out; have hnc16 := NB536_546.out; obtain ⟨hcz17_0, hcz17_1, hcz17_2, hcz17_3⟩ := zc4 BK546; obtain ⟨hfz17_0, hfz17_1, hfz17_2, hfz17_3⟩ := zz4 BK546; obtain ⟨Ao18, co18, eo18⟩ := Kd.V_slice HO543.out; subst eo18; obtain ⟨hcz19_0, hcz19_1, hcz19_2, hcz19_3⟩ := zc4 BK536; obtain ⟨hfz19_0, hfz19_1, hfz19_2, hfz19_3⟩ := zz4 BK536))
   refine bodyPost_ret (results_ctt rfl _ _ gb536 26 #[.int .i64 t538, .int .i64 t539, .string t540, .slice Ao18 t541.length co18] (0, 0) _ rfl zw Try.underlying26 rfl (by kernel_rfl)) rfl ?_; exact ⟨_, zr, by (with_reducible repeat (first | apply Kd.V_alloc | apply Kd.V_drewN | apply Kd.V_drew)); exact Kd.V_mono (Kd.V_far (p := ⟨gb536, 3, none⟩) (Kd.V_far (p := ⟨gb536, 2, none⟩) (Kd.V_far (p := ⟨gb536, 1, none⟩) (Kd.V_far (p := ⟨gb536, 0, none⟩) (Kd.V_far (p := ⟨gb546, 3, none⟩) (Kd.V_far (p := ⟨gb546, 2, none⟩) (Kd.V_far (p := ⟨gb546, 1, none⟩) (Kd.V_far (p := ⟨gb546, 0, none⟩) (Kd.V_mono (Kd.V_mono HO543.out (fun k_ hk => (⟨hk, hk.2⟩ : _ ∧ k_ ≠ gb546))) (fun k_ hk => (⟨hk, hk.1.1.2.2⟩ : _ ∧ k_ ≠ gb536))) (fun _ hk => hk.1.2) (.int .i64 t538)) (fun _ hk => hk.1.2) (.int .i64 t539)) (fun _ hk => hk.1.2) (.string t540)) (fun _ hk => hk.1.2) (.slice Ao18 t541.length co18)) (fun _ hk => hk.2) (.int .i64 t538)) (fun _ hk => hk.2) (.int .i64 t539)) (fun _ hk => hk.2) (.string t540)) (fun _ hk => hk.2) (.slice Ao18 t541.length co18)) (fun _ hk => hk.1.1.1.1), zb⟩
  ·replace c6 := Bool.eq_false_iff.mpr c6; subst c6; replace H := zf H; simp only [Option.some.injEq, Prod.mk.injEq] at H; obtain ⟨rfl, rfl, rfl, rfl, rfl, rfl⟩ := H; go_enter Try.func79, Try.ntmps79
   go_wp2_with (first | ((with_reducible refine zD 2 rfl ?_); refine zx 2 #[.int .i64 a0_0, .int .i64 a0_1, .string a0_2, .slice A0_3 l0_3.length c0_3] 26 ?_; intro gb535 hg w20 hbox hb; replace HO0_3 := Aside0.mk (Kd.V_below (Kd.V_elderB (zV HO0_3) gb535 (Nat.le_of_eq hg.symm)) hb); have BK535 := Aside0.mk (hbox); have GW535 := (zq hg : Aside0 (w.heap.size ≤ gb535)); have GE535 := GW535; replace HB := (zB hb); clear hb hbox hg) | ((with_reducible refine zD 4 rfl ?_); refine zx 4 #[.int .i64 0, .int .i64 0, .string (⟨#[]⟩ : ByteArray), .slice none 0 0] 26 ?_; intro gb536 hg w21 hbox hb; replace HO0_3 := Aside0.mk (Kd.V_below (Kd.V_elderB (zV HO0_3) gb536 (Nat.le_of_eq hg.symm)) hb); have BK536 := Aside0.mk (hbox); have GW536 := (zq hg : Aside0 (w.heap.size ≤ gb536)); have GE536 := GW536; replace HB := (zB hb); have NB535_536 := (zl hg BK535 : Aside0 (gb535 ≠ gb536)); have NB536_535 := (zl' hg BK535 : Aside0 (gb536 ≠ gb535)); replace BK535 := (zK BK535 hb); clear hb hbox hg; have hnb22 := NB535_536.out; have hnc22 := NB536_535.out; obtain ⟨hcz23_0, hcz23_1, hcz23_2, hcz23_3⟩ := zc4 BK535; obtain ⟨hfz23_0, hfz23_1, hfz23_2, hfz23_3⟩ := zz4 BK535) | ((with_reducible refine zG 30 rfl ?_); refine zg 11 Try.func30 ((tree_IsFormed.calls k a0_0 a0_1 a0_2 _ _ l0_3 true _ ?side1 ?side2 A3.out).mono ?_); (case side1 => exact zE' (Kd.V_reads' HO0_3.out).2.2); (case side2 => exact (Kd.V_reads' HO0_3.out).2.1); rintro e w24 ⟨rfl, hb⟩; refine ⟨_, rfl, ?_⟩; replace HO0_3 := (zVb HO0_3 hb); replace BK535 := (zK BK535 hb); replace BK536 := (zK BK536 hb); replace HB := (zB hb); (try clear hb); (try clear hb2); (try clear hk); (try clear hi); obtain ⟨hcz25_0, hcz25_1, hcz25_2, hcz25_3⟩ := zc4 BK535; obtain ⟨hfz25_0, hfz25_1, hfz25_2, hfz25_3⟩ := zz4 BK535) | ((with_reducible refine zG 76 rfl ?_); refine zg 17 Try.func76 ((tree_at.calls k a0_0 a0_1 a0_2 (fun k_ => (((P0_3_ k_ ∨ w.heap.size ≤ k_) ∧ k_ ≠ gb535) ∧ k_ ≠ gb536)) _ _ l0_3 _ _ l1 t538 t539 t540 t541 t544 false _ ?side1 ?side2 ?side3 A5.out).mono ?_); (case side1 => exact HO0_3.out); (case side2 => exact zC HR1); (case side3 => exact HC1.out); rintro e w26 ⟨v542, rfl, ho0, hb⟩; refine ⟨_, rfl, ?_⟩; replace HO0_3 := (zVb HO0_3 hb); have HO543 := Aside0.mk (Kd.V_lower (Kd.V_mono (ok' := fun k_ => (P0_3_ k_ ∨ w.heap.size ≤ k_) ∧ k_ ≠ gb535 ∧ k_ ≠ gb536) ho0 (fun k_ hk_ => ⟨Or.elim hk_ (fun hs_ => hs_.1.1) (fun hn_ => (.inr (Nat.le_trans (below_size zb) hn_))), Or.elim hk_ (fun hs_ => hs_.1.2) (fun hn_ => (Kd.freshB (g := gb535) (o := .cells #[.int .i64 a0_0, .int .i64 a0_1, .string a0_2, .slice A0_3 l0_3.length c0_3] 26 (0, 0)) (Cl.blk BK535.out) k_ hn_)), Or.elim hk_ (fun hs_ => hs_.2) (fun hn_ => (Kd.freshB (g := gb536) (o := .cells #[.int .i64 0, .int .i64 0, .string (⟨#[]⟩ : ByteArray), .slice none 0 0] 26 (0, 0)) (Cl.blk BK536.out) k_ hn_))⟩)) (below_size zb)); replace BK535 := (zK BK535 hb); replace BK536 := (zK BK536 hb); replace HB := (zB hb); (try clear hb); (try clear hb2); (try clear hk); (try clear hi); (try clear ho0)) | ((with_reducible refine zD 7 rfl ?_); refine zx 7 #[.int .i64 0, .int .i64 0, .string (⟨#[]⟩ : ByteArray), .slice none 0 0] 26 ?_; intro gb546 hg w27 hbox hb; replace HO0_3 := Aside0.mk (Kd.V_below (Kd.V_elderB (zV HO0_3) gb546 (Nat.le_of_eq hg.symm)) hb); replace HO543 := Aside0.mk (Kd.V_below (Kd.V_elderB (zV HO543) gb546 (Nat.le_of_eq hg.symm)) hb); have BK546 := Aside0.mk (hbox); have GW546 := (zq hg : Aside0 (w.heap.size ≤ gb546)); have GE546 := GW546; replace HB := (zB hb); have NB535_546 := (zl hg BK535 : Aside0 (gb535 ≠ gb546)); have NB546_535 := (zl' hg BK535 : Aside0 (gb546 ≠ gb535)); replace BK535 := (zK BK535 hb); have NB536_546 := (zl hg BK536 : Aside0 (gb536 ≠ gb546)); have NB546_536 := (zl' hg BK536 : Aside0 (gb546 ≠ gb536)); replace BK536 := (zK BK536 hb); clear hb hbox hg; have hnb28 := NB546_535.out; have hnc28 := NB535_546.out; have hnb29 := NB546_536.out; have hnc29 := NB536_546.out; obtain ⟨hcz30_0, hcz30_1, hcz30_2, hcz30_3⟩ := zc4 BK546; obtain ⟨hfz30_0, hfz30_1, hfz30_2, hfz30_3⟩ := zz4 BK546; obtain ⟨Ao31, co31, eo31⟩ := Kd.V_slice HO543.out; subst eo31; obtain ⟨hcz32_0, hcz32_1, hcz32_2, hcz32_3⟩ := zc4 BK536; obtain ⟨hfz32_0, hfz32_1, hfz32_2, hfz32_3⟩ := zz4 BK536))
   refine bodyPost_ret (results_ctt rfl _ _ gb536 26 #[.int .i64 0, .int .i64 0, .string (⟨#[]⟩ : ByteArray), .slice none 0 0] (0, 0) _ rfl zw Try.underlying26 rfl (by kernel_rfl)) rfl ?_; exact ⟨_, zr, (by first | exact Kd.V_nil _ _ _ _ _ | exact Kd.V_mono (Kd.R_V (by first | exact Kd.R_nil _ _ _ _ _ | exact Kd.N_nil _ _ _ _ _ | exact Kd.V_nil _ _ _ _ _ | exact Kd.Q_nil _ _ _ _ _ | exact Kd.S_nil _ _ _ _ _)) (fun k_ hk => by first | exact ⟨(.inr (hk.1)), hk.2⟩ | exact (.inr (hk)))), zb⟩
 ·replace c4 := Bool.eq_false_iff.mpr c4; subst c4; replace H := zf H; simp only [Option.some.injEq, Prod.mk.injEq] at H; obtain ⟨rfl, rfl, rfl, rfl, rfl, rfl⟩ := H; go_enter Try.func79, Try.ntmps79
  go_wp2_with (first | ((with_reducible refine zD 2 rfl ?_); refine zx 2 #[.int .i64 a0_0, .int .i64 a0_1, .string a0_2, .slice A0_3 l0_3.length c0_3] 26 ?_; intro gb535 hg w33 hbox hb; replace HO0_3 := Aside0.mk (Kd.V_below (Kd.V_elderB (zV HO0_3) gb535 (Nat.le_of_eq hg.symm)) hb); have BK535 := Aside0.mk (hbox); have GW535 := (zq hg : Aside0 (w.heap.size ≤ gb535)); have GE535 := GW535; replace HB := (zB hb); clear hb hbox hg) | ((with_reducible refine zD 4 rfl ?_); refine zx 4 #[.int .i64 0, .int .i64 0, .string (⟨#[]⟩ : ByteArray), .slice none 0 0] 26 ?_; intro gb536 hg w34 hbox hb; replace HO0_3 := Aside0.mk (Kd.V_below (Kd.V_elderB (zV HO0_3) gb536 (Nat.le_of_eq hg.symm)) hb); have BK536 := Aside0.mk (hbox); have GW536 := (zq hg : Aside0 (w.heap.size ≤ gb536)); have GE536 := GW536; replace HB := (zB hb); have NB535_536 := (zl hg BK535 : Aside0 (gb535 ≠ gb536)); have NB536_535 := (zl' hg BK535 : Aside0 (gb536 ≠ gb535)); replace BK535 := (zK BK535 hb); clear hb hbox hg; have hnb35 := NB535_536.out; have hnc35 := NB536_535.out; obtain ⟨hcz36_0, hcz36_1, hcz36_2, hcz36_3⟩ := zc4 BK535; obtain ⟨hfz36_0, hfz36_1, hfz36_2, hfz36_3⟩ := zz4 BK535) | ((with_reducible refine zG 30 rfl ?_); refine zg 11 Try.func30 ((tree_IsFormed.calls k a0_0 a0_1 a0_2 _ _ l0_3 false _ ?side1 ?side2 A3.out).mono ?_); (case side1 => exact zE' (Kd.V_reads' HO0_3.out).2.2); (case side2 => exact (Kd.V_reads' HO0_3.out).2.1); rintro e w37 ⟨rfl, hb⟩; refine ⟨_, rfl, ?_⟩; replace HO0_3 := (zVb HO0_3 hb); replace BK535 := (zK BK535 hb); replace BK536 := (zK BK536 hb); replace HB := (zB hb); (try clear hb); (try clear hb2); (try clear hk); (try clear hi); obtain ⟨hcz38_0, hcz38_1, hcz38_2, hcz38_3⟩ := zc4 BK536; obtain ⟨hfz38_0, hfz38_1, hfz38_2, hfz38_3⟩ := zz4 BK536))
  refine bodyPost_ret (results_ctt rfl _ _ gb536 26 #[.int .i64 0, .int .i64 0, .string (⟨#[]⟩ : ByteArray), .slice none 0 0] (0, 0) _ rfl zw Try.underlying26 rfl (by kernel_rfl)) rfl ?_; exact ⟨_, zr, (by first | exact Kd.V_nil _ _ _ _ _ | exact Kd.V_mono (Kd.R_V (by first | exact Kd.R_nil _ _ _ _ _ | exact Kd.N_nil _ _ _ _ _ | exact Kd.V_nil _ _ _ _ _ | exact Kd.Q_nil _ _ _ _ _ | exact Kd.S_nil _ _ _ _ _)) (fun k_ hk => by first | exact ⟨(.inr (hk.1)), hk.2⟩ | exact (.inr (hk)))), zb⟩

end Go.Proofs.Ytnafnieocpkkhaa.P

namespace Go.Proofs.Ytnafnieocpkkhaa.P
open Go.RowKit Go.Proofs.YtnafnieocpkkhaaW.PrintWords Go.Proofs.YtnafnieocpkkhaaW.PrintLast Go.Proofs.YtnafnieocpkkhaaW.PrintMore
attribute [local go_sem] max2_int min2_int max_two min_two max_three min_three max_four min_four
set_option linter.unusedVariables false
set_option linter.unusedSimpArgs false

def tree_Clone.ok : Nat → S26 → Bool
 | 0, _ => false
 | m + 1, n => decide (n.f2.length < 1000000) && n.f2.all (tree_Clone.ok m)
def tree_Clone.f (k : Nat) (a0_0 : Int) (a0_1 : Int) (a0_2 : ByteArray) (l0_3 : List (S26)) : Option (Int × Int × ByteArray × List (S26)) := if tree_Clone.ok k ⟨a0_0, ⟨a0_1, a0_2⟩, l0_3⟩ = true then some (a0_0, a0_1, a0_2, l0_3) else none
/-- A row in which some Nodes are new already (true), and the others stand as in w0. -/
def tree_Clone.d (w0 : World) : Kd (Bool × S26) where
 sz := 4
 E := (k26).E
 K := fun w x cs => cs.length = 4 ∧ ∀ u ∈ cs, u.oneCell' = true
 M := fun w base ok x cs => (x.1 = true ∧ (k26).M w base ok x.2 cs) ∨ (x.1 = false ∧ (k26).K w0 x.2 cs)
 K_len := fun h => h.1
 K_one := fun h => h.2
 K_below := fun _ h => h
 K_of_M := by
  rintro w base ok x cs (⟨_, h⟩ | ⟨_, h⟩)
  ·exact ⟨(k26).K_len ((k26).K_of_M h), (k26).K_one ((k26).K_of_M h)⟩
  ·exact ⟨(k26).K_len h, (k26).K_one h⟩
 M_mono := by
  rintro w base ok ok' x cs h (⟨e, m⟩ | m)
  ·exact .inl ⟨e, (k26).M_mono h m⟩
  ·exact .inr m
 M_bound := by
  rintro w base ok x cs (⟨e, m⟩ | m)
  ·exact .inl ⟨e, (k26).M_bound m⟩
  ·exact .inr m
 M_move := by
  rintro w w1 base ok x cs h (⟨e, m⟩ | m)
  ·exact .inl ⟨e, (k26).M_move h m⟩
  ·exact .inr m
 M_lower := by
  rintro w base base' ok x cs h (⟨e, m⟩ | m)
  ·exact .inl ⟨e, (k26).M_lower h m⟩
  ·exact .inr m
theorem tree_Clone.done {w0 w : World} {base : Nat} {v : Value} {l : List (S26)} (h : Kd.R (tree_Clone.d w0) 26 w base (fun _ => True) v (l.map (fun x => (true, x)))) : Kd.R k26 26 w base (fun _ => True) v l := by
 obtain ⟨h0, inner, ho, hl, hr⟩ := h; rw [List.length_map] at ho hl; refine ⟨h0, inner, ho, hl, fun j p hj => ?_⟩; have := hr j (true, p) (by simp [hj])
 rcases this with ⟨_, m⟩ | ⟨e, _⟩
 ·exact m
 ·cases e
theorem tree_Clone.infoNode : (Try.prog.info? 26).map (fun i => (i.zero, i.size, i.bytes)) = some (some (.agg #[.int .i64 0, .int .i64 0, .string ⟨#[]⟩, .slice none 0 0]), 4, 56) := by kernel_rfl
theorem tree_Clone.lit {α : Type} (d : Kd α) {W : World} {base e : Nat} (hbase : base ≤ W.heap.size) : d.R e (W.alloc (.cells #[] e)) base (fun _ => True) (.slice (some ⟨W.heap.size, 0, none⟩) 0 0) [] := by
 refine ⟨fun _ _ => trivial, [], ?_, Reps.none _ _⟩; have h2 := World.ownsRow_lit (base := base) (e := e) (size := d.sz) W #[] 0 hbase (by unfold maxLen; omega) (by simp)
 simpa using h2
set_option maxHeartbeats 8000000 in
set_option maxRecDepth 100000 in
/-- slices.Clone of Nodes: the row is new, the Nodes stand as they stood. -/
theorem tree_Clone.row (w0 w : World) (l : List (S26)) (A : Option Addr) (c : Nat) (hl : l.length < 1000000) (hC : Kd.C k26 w0 A l.length l) (hc : l.length ≤ c) (hB : Below w0.heap.size w0 w) :
  Calls Try.prog 103 #[.slice A l.length c] w fun e w' => ∃ v', e = .returned v' ∧ Kd.R (tree_Clone.d w0) 26 w' w.heap.size (fun _ => True) v' (l.map (fun x => (false, x))) ∧ Below w.heap.size w w' := by
 have hu := Try.underlying24
 have hq := fun w n => Lib.run_eql_slice_nil (P := Try.prog) w 24 26 A n c 0 0 hu
 have HC := Aside0.mk hC; have HB := Aside0.mk hB; clear hC hB
 cases A with
 | none =>
  have h0 : l = [] := by
   rcases Nat.eq_zero_or_pos l.length with h0 | h0
   ·exact List.length_eq_zero_iff.mp h0
   ·obtain ⟨ad, e, _⟩ := HC.out.2.2 h0
    cases e
  subst h0; go_enter Try.func103, Try.ntmps103; go_wp2; go_ret; exact ⟨_, rfl, Kd.R_nil _ _ _ _ _, Below.refl _ _⟩
 | some ad =>
  have hE := Aside0.mk (tree_Clone.lit (tree_Clone.d w0) (W := w) (base := w.heap.size) (e := 26) (Nat.le_refl _)); have hA := Aside0.mk (below_alloc (Below.refl w.heap.size w) (.cells #[] 26))
  have hRR : Aside0 (ReadsRow (fun (x : Bool × S26) cs => x.1 = false ∧ (k26).K w0 x.2 cs) 4 (w.alloc (.cells #[] 26)) (some ad) l.length (l.map (fun x => (false, x)))) := ⟨by
   refine ⟨by simp, HC.out.2.1, fun hp => ?_⟩; obtain ⟨ad', e, hh⟩ := HC.out.2.2 hp; refine ⟨ad', e, fun j p hj => ?_⟩; rw [List.getElem?_map] at hj; obtain ⟨q, hq, rfl⟩ := Option.map_eq_some_iff.mp hj; obtain ⟨cs, h1, h2, h3⟩ := hh j q hq; refine ⟨cs, h1, ⟨rfl, h2⟩, fun i u hu2 => ?_⟩; have h4 := h3 i u hu2; have h5 := (HB.out.cell (World.block_lt_of_cell? w0 _ h4)).trans h4
   exact (hA.out.cell (World.block_lt_of_cell? w _ h5)).trans h5⟩
  clear HC; go_enter Try.func103, Try.ntmps103
  go_wp2_with (first | (at_builtin; refine Kd.R_append_rows (tree_Clone.d w0) (w0 := w) w.heap.size rfl (.tmp 5) (.tmp 6) 24 26 (.agg #[.int .i64 0, .int .i64 0, .string ⟨#[]⟩, .slice none 0 0]) 56 rfl Try.underlying24 tree_Clone.infoNode rfl (show 0 < 4 by decide) (by omega) (.slice (some ⟨w.heap.size, 0, none⟩) 0 0) [] (l.map (fun x => (false, x))) (some ad) l.length c (fun _ => True) (fun _ => False) rfl rfl hE.out hRR.out (fun x cs h => .inr h) (fun _ hk => hk.elim) (fun _ _ => trivial) hA.out hA.out.size (show (([] : List (Bool × S26)).length + l.length) * 56 ≤ 140737488355328 by rw [List.length_nil]; omega) ?_; intro v1 w1 hr hb hg hat; have HR := Aside0.mk hr; have HB2 := Aside0.mk hb; clear hr hb hg hat))
  go_ret; exact ⟨_, rfl, by simpa using HR.out, HB2.out⟩
theorem tree_Clone.one4 {a b : Int} {s : ByteArray} {A : Option Addr} {n c : Nat} : ∀ q ∈ ([.int .i64 a, .int .i64 b, .string s, .slice A n c] : List Value), q.oneCell' = true := by
 intro q hq; simp only [List.mem_cons, List.not_mem_nil, or_false] at hq
 rcases hq with rfl | rfl | rfl | rfl <;> rfl
def tree_Clone.mix (i : Nat) (l : List (S26)) : List (Bool × S26) := (l.take i).map (fun x => (true, x)) ++ (l.drop i).map (fun x => (false, x))
theorem tree_Clone.mix_len (i : Nat) (l : List (S26)) : (tree_Clone.mix i l).length = l.length := by simp [tree_Clone.mix]; omega
theorem tree_Clone.mix_get (i : Nat) (l : List (S26)) (h : i < l.length) (z : Bool × S26) : (tree_Clone.mix i l).getD i z = (false, l[i]) := by
 rw [List.getD_eq_getElem?_getD, tree_Clone.mix, List.getElem?_append_right (by simp; omega)]
 simp [Nat.min_eq_left (Nat.le_of_lt h), h]
theorem tree_Clone.mix_set (i : Nat) (l : List (S26)) (h : i < l.length) : (tree_Clone.mix i l).set i (true, l[i]) = tree_Clone.mix (i + 1) l := by
 apply List.ext_getElem?
 intro j; rw [List.getElem?_set, tree_Clone.mix_len]; unfold tree_Clone.mix; by_cases e : i = j
 ·subst e; rw [if_pos rfl, if_pos h, List.getElem?_append_left (by simp; omega)]
  simp [h]
 ·rw [if_neg e]
  rcases Nat.lt_or_ge j i with hj | hj
  ·rw [List.getElem?_append_left (by simp; omega), List.getElem?_append_left (by simp; omega)]
   simp [hj, Nat.lt_succ_of_lt hj]
  ·rw [List.getElem?_append_right (by simp; omega), List.getElem?_append_right (by simp; omega)]; simp only [List.length_map, List.length_take, List.getElem?_map, List.getElem?_drop]
   congr 2
   omega
def tree_Clone.Holds (w0 : World) (m : Nat) : Prop := ∀ (n : S26) (A : Option Addr) (cc : Nat) (w : World), tree_Clone.ok m n = true → n.f2.length ≤ cc → Kd.C k26 w0 A n.f2.length n.f2 → Below w0.heap.size w0 w →
 Calls Try.prog 78 #[.agg #[.int .i64 n.f0, .int .i64 n.f1.f0, .string n.f1.f1, .slice A n.f2.length cc]] w fun e w' => ∃ v : Value, e = .returned (.agg #[.int .i64 n.f0, .int .i64 n.f1.f0, .string n.f1.f1, v]) ∧ Kd.R k26 26 w' w.heap.size (fun _ => True) v n.f2 ∧ Below w.heap.size w w'
set_option maxHeartbeats 8000000 in
set_option maxRecDepth 100000 in
theorem tree_Clone.walk_ok (w0 : World) : ∀ m, tree_Clone.Holds w0 m := by
 have hu := Try.underlying26; intro m
 induction m with
 | zero =>
  intro n A cc w h
  simp [tree_Clone.ok] at h
 | succ m ih =>
  intro n A cc w h hcc hC hB; rw [tree_Clone.ok, Bool.and_eq_true] at h; have hlen : n.f2.length < 1000000 := of_decide_eq_true h.1; have HOK := Aside0.mk (List.all_eq_true.mp h.2); have IH := Aside0.mk ih; have hB2 := below_alloc (below_alloc hB (.cells #[.int .i64 n.f0, .int .i64 n.f1.f0, .string n.f1.f1, .slice A n.f2.length cc] 26)) (.cells #[.int .i64 0, .int .i64 0, .string ⟨#[]⟩, .slice none 0 0] 26); have HB2 := Aside0.mk hB2; have HW := Aside0.mk (below_alloc (below_alloc (Below.refl w.heap.size w) (.cells #[.int .i64 n.f0, .int .i64 n.f1.f0, .string n.f1.f1, .slice A n.f2.length cc] 26)) (.cells #[.int .i64 0, .int .i64 0, .string ⟨#[]⟩, .slice none 0 0] 26)); have H1 := Aside0.mk (blk_alloc (blk_new w (.cells #[.int .i64 n.f0, .int .i64 n.f1.f0, .string n.f1.f1, .slice A n.f2.length cc] 26)) (.cells #[.int .i64 0, .int .i64 0, .string ⟨#[]⟩, .slice none 0 0] 26))
  have H2 : Aside0 (((w.alloc (.cells #[.int .i64 n.f0, .int .i64 n.f1.f0, .string n.f1.f1, .slice A n.f2.length cc] 26)).alloc (.cells #[.int .i64 0, .int .i64 0, .string ⟨#[]⟩, .slice none 0 0] 26)).heap[w.heap.size + 1]? = some (.cells #[.int .i64 0, .int .i64 0, .string ⟨#[]⟩, .slice none 0 0] 26 (0, 0))) := ⟨by
   have := blk_new (w.alloc (.cells #[.int .i64 n.f0, .int .i64 n.f1.f0, .string n.f1.f1, .slice A n.f2.length cc] 26)) (.cells #[.int .i64 0, .int .i64 0, .string ⟨#[]⟩, .slice none 0 0] 26)
   simpa using this⟩
  have HS : Aside0 (((w.alloc (.cells #[.int .i64 n.f0, .int .i64 n.f1.f0, .string n.f1.f1, .slice A n.f2.length cc] 26)).alloc (.cells #[.int .i64 0, .int .i64 0, .string ⟨#[]⟩, .slice none 0 0] 26)).heap.size = w.heap.size + 2) := ⟨by simp⟩
  have ROW := Aside0.mk (tree_Clone.row w0 ((w.alloc (.cells #[.int .i64 n.f0, .int .i64 n.f1.f0, .string n.f1.f1, .slice A n.f2.length cc] 26)).alloc (.cells #[.int .i64 0, .int .i64 0, .string ⟨#[]⟩, .slice none 0 0] 26)) n.f2 A cc hlen hC hcc hB2); clear h ih hB hC hB2; go_enter Try.func78, Try.ntmps78
  go_wp2_with (go_at_call 103; refine ROW.out.mono ?_; rintro e w1 ⟨v1, rfl, hR, hb⟩; obtain ⟨A1, c1, hv, hc1, _⟩ := Kd.R_reads hR; rw [List.length_map] at hv hc1; subst hv; have HR1 := Aside0.mk hR; have HB1 := Aside0.mk hb; clear hR hb)
  go_loopg [11] n.f2.length (fun kq v11 w' => ∃ i : Nat, v11 = .int .i64 (i : Int) ∧ Aside0 (i + kq = n.f2.length) ∧ Aside0 (Kd.R (tree_Clone.d w0) 26 w' ((w.alloc (.cells #[.int .i64 n.f0, .int .i64 n.f1.f0, .string n.f1.f1, .slice A n.f2.length cc] 26)).alloc (.cells #[.int .i64 0, .int .i64 0, .string ⟨#[]⟩, .slice none 0 0] 26)).heap.size (fun _ => True) (.slice A1 n.f2.length c1) (tree_Clone.mix i n.f2)) ∧ Aside0 (Below ((w.alloc (.cells #[.int .i64 n.f0, .int .i64 n.f1.f0, .string n.f1.f1, .slice A n.f2.length cc] 26)).alloc (.cells #[.int .i64 0, .int .i64 0, .string ⟨#[]⟩, .slice none 0 0] 26)).heap.size ((w.alloc (.cells #[.int .i64 n.f0, .int .i64 n.f1.f0, .string n.f1.f1, .slice A n.f2.length cc] 26)).alloc (.cells #[.int .i64 0, .int .i64 0, .string ⟨#[]⟩, .slice none 0 0] 26)) w'))
  case atStart => exact ⟨0, rfl, ⟨by omega⟩, ⟨by simpa [tree_Clone.mix] using HR1.out⟩, HB1⟩
  case round =>
   clear HR1 HB1 ROW; obtain ⟨i, rfl, HK, HR, HB⟩ := hrel; by_cases hlt : i < n.f2.length
   ·have hd1 : decide ((i : Int) < (n.f2.length : Int)) = true := decide_eq_true (by omega); obtain ⟨g, cap, hv, hbg, hgl, _⟩ := Kd.R_form HR.out (by rw [tree_Clone.mix_len]; omega); rw [tree_Clone.mix_len] at hv; injection hv with hv1 _ hv2; subst hv1 hv2; obtain ⟨c, hcl, hM, hcc2⟩ := Kd.R_get HR.out (false, n) (i : Int) (by omega) (by omega); rw [Int.toNat_natCast, tree_Clone.mix_get i n.f2 hlt] at hM; rw [Int.toNat_natCast] at hcc2; have hokx := HOK.out _ (List.getElem_mem hlt); have hset := tree_Clone.mix_set i n.f2 hlt; generalize n.f2[i] = x at *
    have hK : (k26).K w0 x c := by
     rcases hM with ⟨e, _⟩ | ⟨_, hk⟩
     ·cases e
     ·exact hk
    obtain ⟨A3, c3, rfl, hl3, hC3⟩ := k26_open hK
    have had : ∀ j, (⟨g, 0, none⟩ : Addr).add (i * 4 + j) = ⟨g, i * 4 + j, none⟩ := fun j => by unfold Addr.add; simp; try omega
    have x0 : wr.cell? ⟨g, i * 4 + 0, none⟩ = some (.int .i64 x.f0) := (by have hq := hcc2 0 _ rfl; rw [show (tree_Clone.d w0).sz = 4 from rfl, had] at hq; exact hq)
    have x1 : wr.cell? ⟨g, i * 4 + 1, none⟩ = some (.int .i64 x.f1.f0) := (by have hq := hcc2 1 _ rfl; rw [show (tree_Clone.d w0).sz = 4 from rfl, had] at hq; exact hq)
    have x2 : wr.cell? ⟨g, i * 4 + 2, none⟩ = some (.string x.f1.f1) := (by have hq := hcc2 2 _ rfl; rw [show (tree_Clone.d w0).sz = 4 from rfl, had] at hq; exact hq)
    have x3 : wr.cell? ⟨g, i * 4 + 3, none⟩ = some (.slice A3 x.f2.length c3) := (by have hq := hcc2 3 _ rfl; rw [show (tree_Clone.d w0).sz = 4 from rfl, had] at hq; exact hq)
    have x00 : wr.cell? ⟨g, i * 4, none⟩ = some (.int .i64 x.f0) := x0; have HSET := Aside0.mk hset; have HCL := Aside0.mk (IH.out x A3 c3 (wr.alloc (.cells #[.int .i64 x.f0, .int .i64 x.f1.f0, .string x.f1.f1, .slice A3 x.f2.length c3] 26)) hokx hl3 hC3 (below_alloc (HB2.out.trans (HB.out.mono HB2.out.size)) _)); have HX := Aside0.mk (And.intro x0 (And.intro x1 (And.intro x2 x3))); have HXA := Aside0.mk (below_alloc (Below.refl wr.heap.size wr) (.cells #[.int .i64 x.f0, .int .i64 x.f1.f0, .string x.f1.f1, .slice A3 x.f2.length c3] 26)); clear hM hcc2 hokx hset hK hC3 hl3 had hcl
    cases gk with
    | zero => exact absurd hlt (by have := HK.out; omega)
    | succ kq' =>
    go_wp2_with fail; refine HCL.out.mono ?_; rintro e w5 ⟨v5, rfl, hR5, hb5⟩; obtain ⟨A5, c5, hv5, _, _⟩ := Kd.R_reads hR5; subst hv5; have HBW := Aside0.mk (HXA.out.trans (hb5.mono HXA.out.size)); have HRW := Aside0.mk (Kd.R_below HR.out HBW.out); have hbs := HB.out.size; have HB5 := Aside0.mk (HB.out.trans (HBW.out.mono hbs)); have HM5 := Aside0.mk (Kd.R_mono (ok' := fun k => k ≠ g) (Kd.R_lower (Kd.R_bound hR5) (Nat.le_trans hbs HXA.out.size)) (fun k hk e => by have h1 := hk.2.1; have h2 := HXA.out.size; subst e; simp at h1; omega)); obtain ⟨e0, e1, e2, e3⟩ := HX.out; have y0 := (HBW.out.cell (p := ⟨g, i * 4 + 0, none⟩) hgl).trans e0; have y1 := (HBW.out.cell (p := ⟨g, i * 4 + 1, none⟩) hgl).trans e1; have y2 := (HBW.out.cell (p := ⟨g, i * 4 + 2, none⟩) hgl).trans e2; have y3 := (HBW.out.cell (p := ⟨g, i * 4 + 3, none⟩) hgl).trans e3; have HY := Aside0.mk (And.intro y0 (And.intro y1 (And.intro y2 y3))); clear hR5 hb5 e0 e1 e2 e3 x0 x1 x2 x3 x00 y0 y1 y2 y3 HR
    have hcells : Aside0 (∀ (j : Nat) (u : Value), ([.int .i64 x.f0, .int .i64 x.f1.f0, .string x.f1.f1, .slice A3 x.f2.length c3] : List Value)[j]? = some u → w5.cell? ⟨g, i * 4 + j, none⟩ = some u) := ⟨fun j u hj => by
     obtain ⟨y0, y1, y2, y3⟩ := HY.out
     match j, hj with
     | 0, hj => simp only [List.getElem?_cons_zero, Option.some.injEq] at hj; subst hj; exact y0
     | 1, hj => simp only [List.getElem?_cons_succ, List.getElem?_cons_zero, Option.some.injEq] at hj; subst hj; exact y1
     | 2, hj => simp only [List.getElem?_cons_succ, List.getElem?_cons_zero, Option.some.injEq] at hj; subst hj; exact y2
     | 3, hj => simp only [List.getElem?_cons_succ, List.getElem?_cons_zero, Option.some.injEq] at hj; subst hj; exact y3⟩
    go_wp2_with (first | (refine Kd.R_store (tree_Clone.d w0) (w0 := ((w.alloc (.cells #[.int .i64 n.f0, .int .i64 n.f1.f0, .string n.f1.f1, .slice A n.f2.length cc] 26)).alloc (.cells #[.int .i64 0, .int .i64 0, .string ⟨#[]⟩, .slice none 0 0] 26))) ((w.alloc (.cells #[.int .i64 n.f0, .int .i64 n.f1.f0, .string n.f1.f1, .slice A n.f2.length cc] 26)).alloc (.cells #[.int .i64 0, .int .i64 0, .string ⟨#[]⟩, .slice none 0 0] 26)).heap.size rfl rfl 26 (.tmp 20) (.tmp 19) rfl 26 (g := g) (i : Int) 0 (tree_Clone.mix i n.f2) (true, x) (.agg #[.int .i64 x.f0, .int .i64 x.f1.f0, .string x.f1.f1, .slice A5 x.f2.length c5]) [.int .i64 x.f0, .int .i64 x.f1.f0, .string x.f1.f1, .slice A5 x.f2.length c5] [.int .i64 x.f0, .int .i64 x.f1.f0, .string x.f1.f1, .slice A3 x.f2.length c3] (fun _ => True) (fun k => k ≠ g) rfl rfl rfl rfl (by kernel_rfl) tree_Clone.one4 HRW.out (by omega) (by omega) rfl hcells.out (show 4 ≤ 4 from Nat.le_refl 4) (.inl ⟨rfl, k26_mkM w5 _ _ x HM5.out⟩) (fun k hk => ⟨trivial, hk⟩) HB5.out ?_; intro w6 hR6 hb6 hg6; have HR6 := Aside0.mk hR6; have HB6 := Aside0.mk hb6; clear hR6 hb6 hg6))
    go_roundg kq'
    case measure => omega
    case rel => exact ⟨i + 1, by go_num, ⟨by have := HK.out; omega⟩, ⟨by have hq := HR6.out; rw [Int.toNat_natCast, HSET.out] at hq; exact hq⟩, HB6⟩
   ·have hin : i = n.f2.length := (by have := HK.out; omega)
    have hd1 : decide ((i : Int) < (n.f2.length : Int)) = false := decide_eq_false (by omega); have hR := HR.out; rw [hin] at hR; have HRD := Aside0.mk (tree_Clone.done (w0 := w0) (l := n.f2) (by simpa [tree_Clone.mix] using hR)); have H1w := Aside0.mk (blk_below H1.out HB.out); have H2w := Aside0.mk (blk_below H2.out HB.out); clear hin hR HR; have a0 : wr.cell? ⟨w.heap.size, 0, none⟩ = some (.int .i64 n.f0) := Lib.cell_of_heap H1w.out 0; have b0 : wr.cell? ⟨w.heap.size + 1, 0, none⟩ = some (.int .i64 0) := Lib.cell_of_heap H2w.out 0; have d0 := Lib.frozen_of_heap H1w.out 0; have f0 := Lib.frozen_of_heap H2w.out 0; have a1 : wr.cell? ⟨w.heap.size, 1, none⟩ = some (.int .i64 n.f1.f0) := Lib.cell_of_heap H1w.out 1; have b1 : wr.cell? ⟨w.heap.size + 1, 1, none⟩ = some (.int .i64 0) := Lib.cell_of_heap H2w.out 1; have d1 := Lib.frozen_of_heap H1w.out 1; have f1 := Lib.frozen_of_heap H2w.out 1; have a2 : wr.cell? ⟨w.heap.size, 2, none⟩ = some (.string n.f1.f1) := Lib.cell_of_heap H1w.out 2; have b2 : wr.cell? ⟨w.heap.size + 1, 2, none⟩ = some (.string ⟨#[]⟩) := Lib.cell_of_heap H2w.out 2; have d2 := Lib.frozen_of_heap H1w.out 2; have f2 := Lib.frozen_of_heap H2w.out 2; have a3 : wr.cell? ⟨w.heap.size, 3, none⟩ = some (.slice A n.f2.length cc) := Lib.cell_of_heap H1w.out 3; have b3 : wr.cell? ⟨w.heap.size + 1, 3, none⟩ = some (.slice none 0 0) := Lib.cell_of_heap H2w.out 3; have d3 := Lib.frozen_of_heap H1w.out 3; have f3 := Lib.frozen_of_heap H2w.out 3; go_wp2_with fail
    have hok : ∀ k, w.heap.size + 1 + 1 ≤ k → k ≠ w.heap.size := fun k hk => by omega
    have hok2 : ∀ k, w.heap.size + 1 + 1 ≤ k → k ≠ w.heap.size + 1 := fun k hk => by omega
    refine bodyPost_ret (results_cell_row rfl _ _ (w.heap.size + 1) 26 #[.int .i64 n.f0, .int .i64 n.f1.f0, .string n.f1.f1, (.slice A1 n.f2.length c1)] (0, 0) _ rfl (by refine blk_put (cs := #[.int .i64 n.f0, .int .i64 n.f1.f0, .string n.f1.f1, .slice none 0 0]) ?_ 3 _ rfl; refine blk_put (cs := #[.int .i64 n.f0, .int .i64 n.f1.f0, .string ⟨#[]⟩, .slice none 0 0]) ?_ 2 _ rfl; refine blk_put (cs := #[.int .i64 n.f0, .int .i64 0, .string ⟨#[]⟩, .slice none 0 0]) ?_ 1 _ rfl; refine blk_put (cs := #[.int .i64 0, .int .i64 0, .string ⟨#[]⟩, .slice none 0 0]) ?_ 0 _ rfl; exact (Below.heap_setCell wr ⟨w.heap.size, 3, none⟩ _ (w.heap.size + 1) (by simp)).trans H2w.out) Try.underlying26 rfl (by kernel_rfl)) rfl ?_; refine ⟨_, rfl, Kd.R_mono (Kd.R_lower (Kd.R_far (p := ⟨w.heap.size + 1, 3, none⟩) (Kd.R_far (p := ⟨w.heap.size + 1, 2, none⟩) (Kd.R_far (p := ⟨w.heap.size + 1, 1, none⟩) (Kd.R_far (p := ⟨w.heap.size + 1, 0, none⟩) (Kd.R_far (p := ⟨w.heap.size, 3, none⟩) (Kd.R_mono (Kd.R_bound HRD.out) (fun k hk => hk.2.1)) hok _) hok2 _) hok2 _) hok2 _) hok2 _) (by omega)) (fun _ _ => trivial), ?_⟩; exact below_set (below_set (below_set (below_set (below_set (HW.out.trans (HB.out.mono HW.out.size)) (Nat.le_refl _)) (by omega)) (by omega)) (by omega)) (by omega)
theorem tree_Clone.calls (k : Nat) (a0_0 : Int) (a0_1 : Int) (a0_2 : ByteArray) (A0_3 : Option Addr) (c0_3 : Nat) (l0_3 : List (S26)) (r1 : Int) (r2 : Int) (r3 : ByteArray) (r4 : List (S26)) (w : World) (hr0_3 : Kd.C k26 w A0_3 l0_3.length l0_3) (hc0_3 : l0_3.length ≤ c0_3) (h : tree_Clone.f k a0_0 a0_1 a0_2 l0_3 = some (r1, r2, r3, r4)) :
  Calls Try.prog 78 #[.agg #[.int .i64 a0_0, .int .i64 a0_1, .string a0_2, .slice A0_3 l0_3.length c0_3]] w fun e w' => ∃ v3_ : Value, e = .returned (.agg #[.int .i64 r1, .int .i64 r2, .string r3, v3_]) ∧ Kd.R k26 26 w' w.heap.size (fun _ => True) v3_ r4 ∧ Below w.heap.size w w' := by
 unfold tree_Clone.f at h
 split at h
 ·rename_i hk
  simp only [Option.some.injEq, Prod.mk.injEq] at h; obtain ⟨rfl, rfl, rfl, rfl⟩ := h; exact tree_Clone.walk_ok w k ⟨a0_0, ⟨a0_1, a0_2⟩, l0_3⟩ A0_3 c0_3 w hk hc0_3 hr0_3 (Below.refl _ _)
 ·cases h

end Go.Proofs.Ytnafnieocpkkhaa.P

namespace Go.Proofs.Ytnafnieocpkkhaa.P
open Go.RowKit Go.Proofs.YtnafnieocpkkhaaW.PrintWords Go.Proofs.YtnafnieocpkkhaaW.PrintLast Go.Proofs.YtnafnieocpkkhaaW.PrintMore
attribute [local go_sem] max2_int min2_int max_two min_two max_three min_three max_four min_four
set_option linter.unusedVariables false
set_option linter.unusedSimpArgs false

/-! ### tree_Span: function 48 -/
def tree_Span.f (k : Nat) (a0_0 : Int) (a0_1 : Int) (a0_2 : ByteArray) (l0_3 : List (S26)) (l1 : List Int) : Option (Int × Int × Int) := (tree_find.f k a0_0 a0_1 a0_2 l0_3 l1).bind fun bt549 => (if bt549.2.2.2.2.2 = 0 then ((tree_width.f k bt549.1 bt549.2.1 bt549.2.2.1 bt549.2.2.2.1).bind fun t558 => (some (bt549.2.2.2.2.1, wrap64 (bt549.2.2.2.2.1 + t558), 0))) else (some (0, 0, bt549.2.2.2.2.2)))
set_option maxHeartbeats 8000000 in
set_option maxRecDepth 100000 in
theorem tree_Span.calls (k : Nat) (a0_0 : Int) (a0_1 : Int) (a0_2 : ByteArray) (A0_3 : Option Addr) (c0_3 : Nat) (l0_3 : List (S26)) (A1 : Option Addr) (c1 : Nat) (l1 : List Int) (r1 : Int) (r2 : Int) (r3 : Int) (w : World) (hr0_3 : Kd.C k26 w A0_3 l0_3.length l0_3) (hc0_3 : l0_3.length ≤ c0_3) (hr1 : Kd.C (Kd.int .i64) w A1 l1.length l1) (hc1 : l1.length ≤ c1) (h : tree_Span.f k a0_0 a0_1 a0_2 l0_3 l1 = some (r1, r2, r3)) :
  Calls Try.prog 48 #[.agg #[.int .i64 a0_0, .int .i64 a0_1, .string a0_2, .slice A0_3 l0_3.length c0_3], .slice A1 l1.length c1] w fun e w' => e = .returned (.tuple #[.agg #[.int .i64 r1, .int .i64 r2], .int .i64 r3]) ∧ Below w.heap.size w w' := by
 have hu26 := Try.underlying26; have hu28 := Try.underlying28; have HR0_3 := Aside0.mk hr0_3; have HC0_3 := Aside0.mk hc0_3; clear hr0_3 hc0_3; have HR1 := Aside0.mk hr1; have HC1 := Aside0.mk hc1; clear hr1 hc1; have HB := Aside0.mk (Below.refl w.heap.size w); have H : ((tree_find.f k a0_0 a0_1 a0_2 l0_3 l1).bind fun bt549 => (if bt549.2.2.2.2.2 = 0 then ((tree_width.f k bt549.1 bt549.2.1 bt549.2.2.1 bt549.2.2.2.1).bind fun t558 => (some (bt549.2.2.2.2.1, wrap64 (bt549.2.2.2.2.1 + t558), 0))) else (some (0, 0, bt549.2.2.2.2.2)))) = some (r1, r2, r3) := h; clear h; replace H := Option.bind_eq_some_iff.mp H; obtain ⟨⟨t549, t550, t551, t552, t555, t556⟩, A30, H⟩ := H; replace H : (if t556 = 0 then ((tree_width.f k t549 t550 t551 t552).bind fun t558 => (some (t555, wrap64 (t555 + t558), 0))) else (some (0, 0, t556))) = some (r1, r2, r3) := H; have A3 := Aside0.mk A30; clear A30; by_cases c4 : t556 = 0
 ·rw [if_pos c4] at H; have c4b0 : (t556 == 0) = true := beq_iff_eq.mpr c4; have c4b1 : (t556 != 0) = false := bne_eq_false_iff_eq.mpr c4; clear c4; replace H := zo H; obtain ⟨t558, A5, H⟩ := H; simp only [Option.some.injEq, Prod.mk.injEq] at H; obtain ⟨rfl, rfl, rfl⟩ := H; go_enter Try.func48, Try.ntmps48
  go_wp2_with (first | ((with_reducible refine zD 2 rfl ?_); refine zx 2 #[.int .i64 a0_0, .int .i64 a0_1, .string a0_2, .slice A0_3 l0_3.length c0_3] 26 ?_; intro gb547 hg w6 hbox hb; have BK547 := Aside0.mk (hbox); have GW547 := (zq hg : Aside0 (w.heap.size ≤ gb547)); have GE547 := GW547; replace HB := (zB hb); clear hb hbox hg) | ((with_reducible refine zD 4 rfl ?_); refine zx 4 #[.int .i64 0, .int .i64 0] 28 ?_; intro gb548 hg w7 hbox hb; have BK548 := Aside0.mk (hbox); have GW548 := (zq hg : Aside0 (w.heap.size ≤ gb548)); have GE548 := GW548; replace HB := (zB hb); have NB547_548 := (zl hg BK547 : Aside0 (gb547 ≠ gb548)); have NB548_547 := (zl' hg BK547 : Aside0 (gb548 ≠ gb547)); replace BK547 := (zK BK547 hb); clear hb hbox hg; have hnb8 := NB547_548.out; have hnc8 := NB548_547.out; obtain ⟨hcz9_0, hcz9_1, hcz9_2, hcz9_3⟩ := zc4 BK547; obtain ⟨hfz9_0, hfz9_1, hfz9_2, hfz9_3⟩ := zz4 BK547) | ((with_reducible refine zG 79 rfl ?_); refine zg 12 Try.func79 ((tree_find.calls k a0_0 a0_1 a0_2 (fun k_ => k_ < w.heap.size) _ _ l0_3 _ _ l1 t549 t550 t551 t552 t555 t556 _ ?side1 ?side2 ?side3 A3.out).mono ?_); (case side1 => exact Kd.V_mk HC0_3.out (Kd.F_below (Kd.C_F k26_heap HR0_3.out) zb)); (case side2 => exact zC HR1); (case side3 => exact HC1.out); rintro e w10 ⟨v553, rfl, ho0, hb⟩; refine ⟨_, rfl, ?_⟩; have HO554 := Aside0.mk (Kd.V_lower (Kd.V_mono (ok' := fun k_ => k_ ≠ gb547 ∧ k_ ≠ gb548) ho0 (fun k_ hk_ => ⟨Or.elim hk_ (fun hs_ => fun e_ => Nat.not_le.2 hs_ (by rw [e_]; exact GW547.out)) (fun hn_ => (Kd.freshB (g := gb547) (o := .cells #[.int .i64 a0_0, .int .i64 a0_1, .string a0_2, .slice A0_3 l0_3.length c0_3] 26 (0, 0)) (Cl.blk BK547.out) k_ hn_)), Or.elim hk_ (fun hs_ => fun e_ => Nat.not_le.2 hs_ (by rw [e_]; exact GW548.out)) (fun hn_ => (Kd.freshB (g := gb548) (o := .cells #[.int .i64 0, .int .i64 0] 28 (0, 0)) (Cl.blk BK548.out) k_ hn_))⟩)) (below_size zb)); replace BK547 := (zK BK547 hb); replace BK548 := (zK BK548 hb); replace HB := (zB hb); (try clear hb); (try clear hb2); (try clear hk); (try clear hi); (try clear ho0)) | ((with_reducible refine zD 6 rfl ?_); refine zx 6 #[.int .i64 0, .int .i64 0, .string (⟨#[]⟩ : ByteArray), .slice none 0 0] 26 ?_; intro gb557 hg w11 hbox hb; replace HO554 := Aside0.mk (Kd.V_below (Kd.V_elderB (zV HO554) gb557 (Nat.le_of_eq hg.symm)) hb); have BK557 := Aside0.mk (hbox); have GW557 := (zq hg : Aside0 (w.heap.size ≤ gb557)); have GE557 := GW557; replace HB := (zB hb); have NB547_557 := (zl hg BK547 : Aside0 (gb547 ≠ gb557)); have NB557_547 := (zl' hg BK547 : Aside0 (gb557 ≠ gb547)); replace BK547 := (zK BK547 hb); have NB548_557 := (zl hg BK548 : Aside0 (gb548 ≠ gb557)); have NB557_548 := (zl' hg BK548 : Aside0 (gb557 ≠ gb548)); replace BK548 := (zK BK548 hb); clear hb hbox hg; have hnb12 := NB557_547.out; have hnc12 := NB547_557.out; have hnb13 := NB557_548.out; have hnc13 := NB548_557.out; obtain ⟨hcz14_0, hcz14_1, hcz14_2, hcz14_3⟩ := zc4 BK557; obtain ⟨hfz14_0, hfz14_1, hfz14_2, hfz14_3⟩ := zz4 BK557; obtain ⟨Ao15, co15, eo15⟩ := Kd.V_slice HO554.out; subst eo15) | ((with_reducible refine zG 55 rfl ?_); refine zg 23 Try.func55 ((tree_width.calls k t549 t550 t551 _ _ t552 t558 _ ?side1 ?side2 A5.out).mono ?_); (case side1 => refine (Kd.V_reads' (e := 26) (base := w.heap.size) (ok := fun k_ => ((k_ ≠ gb547 ∧ k_ ≠ gb548) ∧ k_ ≠ gb557)) (n := t552.length) (c := co15) ?_).2.2; exact (by (with_reducible repeat (first | apply Kd.V_alloc | apply Kd.V_drewN | apply Kd.V_drew)); exact (Kd.V_mono (Kd.V_far (p := ⟨gb557, 3, none⟩) (Kd.V_far (p := ⟨gb557, 2, none⟩) (Kd.V_far (p := ⟨gb557, 1, none⟩) (Kd.V_far (p := ⟨gb557, 0, none⟩) (Kd.V_mono HO554.out (fun k_ hk => (⟨hk, hk.2⟩ : _ ∧ k_ ≠ gb557))) (fun _ hk => hk.2) (.int .i64 t549)) (fun _ hk => hk.2) (.int .i64 t550)) (fun _ hk => hk.2) (.string t551)) (fun _ hk => hk.2) (.slice Ao15 t552.length co15)) (fun _ h_ => h_.1)))); (case side2 => exact (Kd.V_reads' HO554.out).2.1); rintro e w16 ⟨rfl, hb⟩; refine ⟨_, rfl, ?_⟩; replace HO554 := Aside0.mk (Kd.V_below (by (with_reducible repeat (first | apply Kd.V_alloc | apply Kd.V_drewN | apply Kd.V_drew)); exact (Kd.V_mono (Kd.V_far (p := ⟨gb557, 3, none⟩) (Kd.V_far (p := ⟨gb557, 2, none⟩) (Kd.V_far (p := ⟨gb557, 1, none⟩) (Kd.V_far (p := ⟨gb557, 0, none⟩) (Kd.V_mono HO554.out (fun k_ hk => (⟨hk, hk.2⟩ : _ ∧ k_ ≠ gb557))) (fun _ hk => hk.2) (.int .i64 t549)) (fun _ hk => hk.2) (.int .i64 t550)) (fun _ hk => hk.2) (.string t551)) (fun _ hk => hk.2) (.slice Ao15 t552.length co15)) (fun _ h_ => h_.1))) hb); replace BK547 := (zw2 gb547 #[.int .i64 a0_0, .int .i64 a0_1, .string a0_2, .slice A0_3 l0_3.length c0_3] 26 hb); replace BK548 := (zw2 gb548 #[.int .i64 0, .int .i64 0] 28 hb); replace BK557 := (zw2 gb557 #[.int .i64 t549, .int .i64 t550, .string t551, .slice Ao15 t552.length co15] 26 hb); replace HB := (zB hb); (try clear hb); (try clear hb2); (try clear hk); (try clear hi); obtain ⟨hcz17_0, hcz17_1⟩ := zc2 BK548; obtain ⟨hfz17_0, hfz17_1⟩ := zz2 BK548))
  refine bodyPost_ret (results_ct rfl _ _ gb548 28 #[.int .i64 t555, .int .i64 (wrap64 (t555 + t558))] (0, 0) _ rfl zw Try.underlying28 rfl (by kernel_rfl)) rfl ?_; exact ⟨zr, zb⟩
 ·rw [if_neg c4] at H; have c4b0 : (t556 == 0) = false := beq_eq_false_iff_ne.mpr c4; have c4b1 : (t556 != 0) = true := bne_iff_ne.mpr c4; simp only [Option.some.injEq, Prod.mk.injEq] at H; obtain ⟨rfl, rfl, rfl⟩ := H; go_enter Try.func48, Try.ntmps48
  go_wp2_with (first | ((with_reducible refine zD 2 rfl ?_); refine zx 2 #[.int .i64 a0_0, .int .i64 a0_1, .string a0_2, .slice A0_3 l0_3.length c0_3] 26 ?_; intro gb547 hg w18 hbox hb; have BK547 := Aside0.mk (hbox); have GW547 := (zq hg : Aside0 (w.heap.size ≤ gb547)); have GE547 := GW547; replace HB := (zB hb); clear hb hbox hg) | ((with_reducible refine zD 4 rfl ?_); refine zx 4 #[.int .i64 0, .int .i64 0] 28 ?_; intro gb548 hg w19 hbox hb; have BK548 := Aside0.mk (hbox); have GW548 := (zq hg : Aside0 (w.heap.size ≤ gb548)); have GE548 := GW548; replace HB := (zB hb); have NB547_548 := (zl hg BK547 : Aside0 (gb547 ≠ gb548)); have NB548_547 := (zl' hg BK547 : Aside0 (gb548 ≠ gb547)); replace BK547 := (zK BK547 hb); clear hb hbox hg; have hnb20 := NB547_548.out; have hnc20 := NB548_547.out; obtain ⟨hcz21_0, hcz21_1, hcz21_2, hcz21_3⟩ := zc4 BK547; obtain ⟨hfz21_0, hfz21_1, hfz21_2, hfz21_3⟩ := zz4 BK547) | ((with_reducible refine zG 79 rfl ?_); refine zg 12 Try.func79 ((tree_find.calls k a0_0 a0_1 a0_2 (fun k_ => k_ < w.heap.size) _ _ l0_3 _ _ l1 t549 t550 t551 t552 t555 t556 _ ?side1 ?side2 ?side3 A3.out).mono ?_); (case side1 => exact Kd.V_mk HC0_3.out (Kd.F_below (Kd.C_F k26_heap HR0_3.out) zb)); (case side2 => exact zC HR1); (case side3 => exact HC1.out); rintro e w22 ⟨v553, rfl, ho0, hb⟩; refine ⟨_, rfl, ?_⟩; have HO554 := Aside0.mk (Kd.V_lower (Kd.V_mono (ok' := fun k_ => k_ ≠ gb547 ∧ k_ ≠ gb548) ho0 (fun k_ hk_ => ⟨Or.elim hk_ (fun hs_ => fun e_ => Nat.not_le.2 hs_ (by rw [e_]; exact GW547.out)) (fun hn_ => (Kd.freshB (g := gb547) (o := .cells #[.int .i64 a0_0, .int .i64 a0_1, .string a0_2, .slice A0_3 l0_3.length c0_3] 26 (0, 0)) (Cl.blk BK547.out) k_ hn_)), Or.elim hk_ (fun hs_ => fun e_ => Nat.not_le.2 hs_ (by rw [e_]; exact GW548.out)) (fun hn_ => (Kd.freshB (g := gb548) (o := .cells #[.int .i64 0, .int .i64 0] 28 (0, 0)) (Cl.blk BK548.out) k_ hn_))⟩)) (below_size zb)); replace BK547 := (zK BK547 hb); replace BK548 := (zK BK548 hb); replace HB := (zB hb); (try clear hb); (try clear hb2); (try clear hk); (try clear hi); (try clear ho0)) | ((with_reducible refine zD 6 rfl ?_); refine zx 6 #[.int .i64 0, .int .i64 0, .string (⟨#[]⟩ : ByteArray), .slice none 0 0] 26 ?_; intro gb557 hg w23 hbox hb; replace HO554 := Aside0.mk (Kd.V_below (Kd.V_elderB (zV HO554) gb557 (Nat.le_of_eq hg.symm)) hb); have BK557 := Aside0.mk (hbox); have GW557 := (zq hg : Aside0 (w.heap.size ≤ gb557)); have GE557 := GW557; replace HB := (zB hb); have NB547_557 := (zl hg BK547 : Aside0 (gb547 ≠ gb557)); have NB557_547 := (zl' hg BK547 : Aside0 (gb557 ≠ gb547)); replace BK547 := (zK BK547 hb); have NB548_557 := (zl hg BK548 : Aside0 (gb548 ≠ gb557)); have NB557_548 := (zl' hg BK548 : Aside0 (gb557 ≠ gb548)); replace BK548 := (zK BK548 hb); clear hb hbox hg; have hnb24 := NB557_547.out; have hnc24 := NB547_557.out; have hnb25 := NB557_548.out; have hnc25 := NB548_557.out; obtain ⟨hcz26_0, hcz26_1, hcz26_2, hcz26_3⟩ := zc4 BK557; obtain ⟨hfz26_0, hfz26_1, hfz26_2, hfz26_3⟩ := zz4 BK557; obtain ⟨Ao27, co27, eo27⟩ := Kd.V_slice HO554.out; subst eo27; obtain ⟨hcz28_0, hcz28_1⟩ := zc2 BK548; obtain ⟨hfz28_0, hfz28_1⟩ := zz2 BK548))
  refine bodyPost_ret (results_ct rfl _ _ gb548 28 #[.int .i64 0, .int .i64 0] (0, 0) _ rfl zw Try.underlying28 rfl (by kernel_rfl)) rfl ?_; exact ⟨zr, zb⟩

/-! ### tree_At: function 49 -/
def tree_At.f (k : Nat) (a0_0 : Int) (a0_1 : Int) (a0_2 : ByteArray) (l0_3 : List (S26)) (l1 : List Int) : Option (Int × Int × ByteArray × (List (S26)) × Int) := (tree_find.f k a0_0 a0_1 a0_2 l0_3 l1).bind fun bt561 => (if bt561.2.2.2.2.2 = 0 then ((tree_Clone.f k bt561.1 bt561.2.1 bt561.2.2.1 bt561.2.2.2.1).bind fun bt570 => (some (bt570.1, bt570.2.1, bt570.2.2.1, bt570.2.2.2, 0))) else (some (0, 0, (⟨#[]⟩ : ByteArray), ([] : List (S26)), bt561.2.2.2.2.2)))
set_option maxHeartbeats 8000000 in
set_option maxRecDepth 100000 in
theorem tree_At.calls (k : Nat) (a0_0 : Int) (a0_1 : Int) (a0_2 : ByteArray) (A0_3 : Option Addr) (c0_3 : Nat) (l0_3 : List (S26)) (A1 : Option Addr) (c1 : Nat) (l1 : List Int) (r1 : Int) (r2 : Int) (r3 : ByteArray) (r4 : List (S26)) (r5 : Int) (w : World) (hr0_3 : Kd.C k26 w A0_3 l0_3.length l0_3) (hc0_3 : l0_3.length ≤ c0_3) (hr1 : Kd.C (Kd.int .i64) w A1 l1.length l1) (hc1 : l1.length ≤ c1) (h : tree_At.f k a0_0 a0_1 a0_2 l0_3 l1 = some (r1, r2, r3, r4, r5)) :
  Calls Try.prog 49 #[.agg #[.int .i64 a0_0, .int .i64 a0_1, .string a0_2, .slice A0_3 l0_3.length c0_3], .slice A1 l1.length c1] w fun e w' => ∃ v3_ : Value, e = .returned (.tuple #[.agg #[.int .i64 r1, .int .i64 r2, .string r3, v3_], .int .i64 r5]) ∧ Kd.R k26 26 w' w.heap.size (fun _ => True) v3_ r4 ∧ Below w.heap.size w w' := by
 have hu26 := Try.underlying26; have HR0_3 := Aside0.mk hr0_3; have HC0_3 := Aside0.mk hc0_3; clear hr0_3 hc0_3; have HR1 := Aside0.mk hr1; have HC1 := Aside0.mk hc1; clear hr1 hc1; have HB := Aside0.mk (Below.refl w.heap.size w); have H : ((tree_find.f k a0_0 a0_1 a0_2 l0_3 l1).bind fun bt561 => (if bt561.2.2.2.2.2 = 0 then ((tree_Clone.f k bt561.1 bt561.2.1 bt561.2.2.1 bt561.2.2.2.1).bind fun bt570 => (some (bt570.1, bt570.2.1, bt570.2.2.1, bt570.2.2.2, 0))) else (some (0, 0, (⟨#[]⟩ : ByteArray), ([] : List (S26)), bt561.2.2.2.2.2)))) = some (r1, r2, r3, r4, r5) := h; clear h; replace H := Option.bind_eq_some_iff.mp H; obtain ⟨⟨t561, t562, t563, t564, t567, t568⟩, A30, H⟩ := H; replace H : (if t568 = 0 then ((tree_Clone.f k t561 t562 t563 t564).bind fun bt570 => (some (bt570.1, bt570.2.1, bt570.2.2.1, bt570.2.2.2, 0))) else (some (0, 0, (⟨#[]⟩ : ByteArray), ([] : List (S26)), t568))) = some (r1, r2, r3, r4, r5) := H; have A3 := Aside0.mk A30; clear A30; by_cases c4 : t568 = 0
 ·rw [if_pos c4] at H; have c4b0 : (t568 == 0) = true := beq_iff_eq.mpr c4; have c4b1 : (t568 != 0) = false := bne_eq_false_iff_eq.mpr c4; clear c4; replace H := Option.bind_eq_some_iff.mp H; obtain ⟨⟨t570, t571, t572, t573⟩, A50, H⟩ := H; replace H : (some (t570, t571, t572, t573, 0)) = some (r1, r2, r3, r4, r5) := H; have A5 := Aside0.mk A50; clear A50; simp only [Option.some.injEq, Prod.mk.injEq] at H; obtain ⟨rfl, rfl, rfl, rfl, rfl⟩ := H; go_enter Try.func49, Try.ntmps49
  go_wp2_with (first | ((with_reducible refine zD 2 rfl ?_); refine zx 2 #[.int .i64 a0_0, .int .i64 a0_1, .string a0_2, .slice A0_3 l0_3.length c0_3] 26 ?_; intro gb559 hg w6 hbox hb; have BK559 := Aside0.mk (hbox); have GW559 := (zq hg : Aside0 (w.heap.size ≤ gb559)); have GE559 := GW559; replace HB := (zB hb); clear hb hbox hg) | ((with_reducible refine zD 4 rfl ?_); refine zx 4 #[.int .i64 0, .int .i64 0, .string (⟨#[]⟩ : ByteArray), .slice none 0 0] 26 ?_; intro gb560 hg w7 hbox hb; have BK560 := Aside0.mk (hbox); have GW560 := (zq hg : Aside0 (w.heap.size ≤ gb560)); have GE560 := GW560; replace HB := (zB hb); have NB559_560 := (zl hg BK559 : Aside0 (gb559 ≠ gb560)); have NB560_559 := (zl' hg BK559 : Aside0 (gb560 ≠ gb559)); replace BK559 := (zK BK559 hb); clear hb hbox hg; have hnb8 := NB559_560.out; have hnc8 := NB560_559.out; obtain ⟨hcz9_0, hcz9_1, hcz9_2, hcz9_3⟩ := zc4 BK559; obtain ⟨hfz9_0, hfz9_1, hfz9_2, hfz9_3⟩ := zz4 BK559) | ((with_reducible refine zG 79 rfl ?_); refine zg 12 Try.func79 ((tree_find.calls k a0_0 a0_1 a0_2 (fun k_ => k_ < w.heap.size) _ _ l0_3 _ _ l1 t561 t562 t563 t564 t567 t568 _ ?side1 ?side2 ?side3 A3.out).mono ?_); (case side1 => exact Kd.V_mk HC0_3.out (Kd.F_below (Kd.C_F k26_heap HR0_3.out) zb)); (case side2 => exact zC HR1); (case side3 => exact HC1.out); rintro e w10 ⟨v565, rfl, ho0, hb⟩; refine ⟨_, rfl, ?_⟩; have HO566 := Aside0.mk (Kd.V_lower (Kd.V_mono (ok' := fun k_ => k_ ≠ gb559 ∧ k_ ≠ gb560) ho0 (fun k_ hk_ => ⟨Or.elim hk_ (fun hs_ => fun e_ => Nat.not_le.2 hs_ (by rw [e_]; exact GW559.out)) (fun hn_ => (Kd.freshB (g := gb559) (o := .cells #[.int .i64 a0_0, .int .i64 a0_1, .string a0_2, .slice A0_3 l0_3.length c0_3] 26 (0, 0)) (Cl.blk BK559.out) k_ hn_)), Or.elim hk_ (fun hs_ => fun e_ => Nat.not_le.2 hs_ (by rw [e_]; exact GW560.out)) (fun hn_ => (Kd.freshB (g := gb560) (o := .cells #[.int .i64 0, .int .i64 0, .string (⟨#[]⟩ : ByteArray), .slice none 0 0] 26 (0, 0)) (Cl.blk BK560.out) k_ hn_))⟩)) (below_size zb)); replace BK559 := (zK BK559 hb); replace BK560 := (zK BK560 hb); replace HB := (zB hb); (try clear hb); (try clear hb2); (try clear hk); (try clear hi); (try clear ho0)) | ((with_reducible refine zD 6 rfl ?_); refine zx 6 #[.int .i64 0, .int .i64 0, .string (⟨#[]⟩ : ByteArray), .slice none 0 0] 26 ?_; intro gb569 hg w11 hbox hb; replace HO566 := Aside0.mk (Kd.V_below (Kd.V_elderB (zV HO566) gb569 (Nat.le_of_eq hg.symm)) hb); have BK569 := Aside0.mk (hbox); have GW569 := (zq hg : Aside0 (w.heap.size ≤ gb569)); have GE569 := GW569; replace HB := (zB hb); have NB559_569 := (zl hg BK559 : Aside0 (gb559 ≠ gb569)); have NB569_559 := (zl' hg BK559 : Aside0 (gb569 ≠ gb559)); replace BK559 := (zK BK559 hb); have NB560_569 := (zl hg BK560 : Aside0 (gb560 ≠ gb569)); have NB569_560 := (zl' hg BK560 : Aside0 (gb569 ≠ gb560)); replace BK560 := (zK BK560 hb); clear hb hbox hg; have hnb12 := NB569_559.out; have hnc12 := NB559_569.out; have hnb13 := NB569_560.out; have hnc13 := NB560_569.out; obtain ⟨hcz14_0, hcz14_1, hcz14_2, hcz14_3⟩ := zc4 BK569; obtain ⟨hfz14_0, hfz14_1, hfz14_2, hfz14_3⟩ := zz4 BK569; obtain ⟨Ao15, co15, eo15⟩ := Kd.V_slice HO566.out; subst eo15) | ((with_reducible refine zG 78 rfl ?_); refine zg 21 Try.func78 ((tree_Clone.calls k t561 t562 t563 _ _ t564 t570 t571 t572 t573 _ ?side1 ?side2 A5.out).mono ?_); (case side1 => refine (Kd.V_reads' (e := 26) (base := w.heap.size) (ok := fun k_ => ((k_ ≠ gb559 ∧ k_ ≠ gb560) ∧ k_ ≠ gb569)) (n := t564.length) (c := co15) ?_).2.2; exact (by (with_reducible repeat (first | apply Kd.V_alloc | apply Kd.V_drewN | apply Kd.V_drew)); exact (Kd.V_mono (Kd.V_far (p := ⟨gb569, 3, none⟩) (Kd.V_far (p := ⟨gb569, 2, none⟩) (Kd.V_far (p := ⟨gb569, 1, none⟩) (Kd.V_far (p := ⟨gb569, 0, none⟩) (Kd.V_mono HO566.out (fun k_ hk => (⟨hk, hk.2⟩ : _ ∧ k_ ≠ gb569))) (fun _ hk => hk.2) (.int .i64 t561)) (fun _ hk => hk.2) (.int .i64 t562)) (fun _ hk => hk.2) (.string t563)) (fun _ hk => hk.2) (.slice Ao15 t564.length co15)) (fun _ h_ => h_.1)))); (case side2 => exact (Kd.V_reads' HO566.out).2.1); rintro e w16 ⟨v574, rfl, ho0, hb⟩; refine ⟨_, rfl, ?_⟩; replace HO566 := Aside0.mk (Kd.V_elder' (by (with_reducible repeat (first | apply Kd.V_alloc | apply Kd.V_drewN | apply Kd.V_drew)); exact (Kd.V_mono (Kd.V_far (p := ⟨gb569, 3, none⟩) (Kd.V_far (p := ⟨gb569, 2, none⟩) (Kd.V_far (p := ⟨gb569, 1, none⟩) (Kd.V_far (p := ⟨gb569, 0, none⟩) (Kd.V_mono HO566.out (fun k_ hk => (⟨hk, hk.2⟩ : _ ∧ k_ ≠ gb569))) (fun _ hk => hk.2) (.int .i64 t561)) (fun _ hk => hk.2) (.int .i64 t562)) (fun _ hk => hk.2) (.string t563)) (fun _ hk => hk.2) (.slice Ao15 t564.length co15)) (fun _ h_ => h_.1))) (Kd.R_base ho0) hb); have HO575 := Aside0.mk (Kd.R_lower (Kd.R_newB (Kd.R_newB (Kd.R_newB ho0 (g := gb559) (o := .cells #[.int .i64 a0_0, .int .i64 a0_1, .string a0_2, .slice A0_3 l0_3.length c0_3] 26 (0, 0)) zw) (g := gb560) (o := .cells #[.int .i64 0, .int .i64 0, .string (⟨#[]⟩ : ByteArray), .slice none 0 0] 26 (0, 0)) zw) (g := gb569) (o := .cells #[.int .i64 t561, .int .i64 t562, .string t563, .slice Ao15 t564.length co15] 26 (0, 0)) zw) (below_size zb)); replace BK559 := (zw2 gb559 #[.int .i64 a0_0, .int .i64 a0_1, .string a0_2, .slice A0_3 l0_3.length c0_3] 26 hb); replace BK560 := (zw2 gb560 #[.int .i64 0, .int .i64 0, .string (⟨#[]⟩ : ByteArray), .slice none 0 0] 26 hb); replace BK569 := (zw2 gb569 #[.int .i64 t561, .int .i64 t562, .string t563, .slice Ao15 t564.length co15] 26 hb); replace HB := (zB hb); (try clear hb); (try clear hb2); (try clear hk); (try clear hi); (try clear ho0); obtain ⟨hcz17_0, hcz17_1, hcz17_2, hcz17_3⟩ := zc4 BK560; obtain ⟨hfz17_0, hfz17_1, hfz17_2, hfz17_3⟩ := zz4 BK560; obtain ⟨Ao18, co18, eo18⟩ := Kd.R_slice HO575.out; subst eo18))
  refine bodyPost_ret (results_ct rfl _ _ gb560 26 #[.int .i64 t570, .int .i64 t571, .string t572, .slice Ao18 t573.length co18] (0, 0) _ rfl zw Try.underlying26 rfl (by kernel_rfl)) rfl ?_; exact ⟨_, zr, by (with_reducible repeat (first | apply Kd.R_alloc | apply Kd.R_drewN | apply Kd.R_drew)); exact Kd.R_mono (zF4 gb560 (Kd.R_mono HO575.out (fun k_ hk => (⟨hk, hk.1.2⟩ : _ ∧ k_ ≠ gb560))) (fun _ hk => hk.2)) (fun _ hk => trivial), zb⟩
 ·rw [if_neg c4] at H; have c4b0 : (t568 == 0) = false := beq_eq_false_iff_ne.mpr c4; have c4b1 : (t568 != 0) = true := bne_iff_ne.mpr c4; simp only [Option.some.injEq, Prod.mk.injEq] at H; obtain ⟨rfl, rfl, rfl, rfl, rfl⟩ := H; go_enter Try.func49, Try.ntmps49
  go_wp2_with (first | ((with_reducible refine zD 2 rfl ?_); refine zx 2 #[.int .i64 a0_0, .int .i64 a0_1, .string a0_2, .slice A0_3 l0_3.length c0_3] 26 ?_; intro gb559 hg w19 hbox hb; have BK559 := Aside0.mk (hbox); have GW559 := (zq hg : Aside0 (w.heap.size ≤ gb559)); have GE559 := GW559; replace HB := (zB hb); clear hb hbox hg) | ((with_reducible refine zD 4 rfl ?_); refine zx 4 #[.int .i64 0, .int .i64 0, .string (⟨#[]⟩ : ByteArray), .slice none 0 0] 26 ?_; intro gb560 hg w20 hbox hb; have BK560 := Aside0.mk (hbox); have GW560 := (zq hg : Aside0 (w.heap.size ≤ gb560)); have GE560 := GW560; replace HB := (zB hb); have NB559_560 := (zl hg BK559 : Aside0 (gb559 ≠ gb560)); have NB560_559 := (zl' hg BK559 : Aside0 (gb560 ≠ gb559)); replace BK559 := (zK BK559 hb); clear hb hbox hg; have hnb21 := NB559_560.out; have hnc21 := NB560_559.out; obtain ⟨hcz22_0, hcz22_1, hcz22_2, hcz22_3⟩ := zc4 BK559; obtain ⟨hfz22_0, hfz22_1, hfz22_2, hfz22_3⟩ := zz4 BK559) | ((with_reducible refine zG 79 rfl ?_); refine zg 12 Try.func79 ((tree_find.calls k a0_0 a0_1 a0_2 (fun k_ => k_ < w.heap.size) _ _ l0_3 _ _ l1 t561 t562 t563 t564 t567 t568 _ ?side1 ?side2 ?side3 A3.out).mono ?_); (case side1 => exact Kd.V_mk HC0_3.out (Kd.F_below (Kd.C_F k26_heap HR0_3.out) zb)); (case side2 => exact zC HR1); (case side3 => exact HC1.out); rintro e w23 ⟨v565, rfl, ho0, hb⟩; refine ⟨_, rfl, ?_⟩; have HO566 := Aside0.mk (Kd.V_lower (Kd.V_mono (ok' := fun k_ => k_ ≠ gb559 ∧ k_ ≠ gb560) ho0 (fun k_ hk_ => ⟨Or.elim hk_ (fun hs_ => fun e_ => Nat.not_le.2 hs_ (by rw [e_]; exact GW559.out)) (fun hn_ => (Kd.freshB (g := gb559) (o := .cells #[.int .i64 a0_0, .int .i64 a0_1, .string a0_2, .slice A0_3 l0_3.length c0_3] 26 (0, 0)) (Cl.blk BK559.out) k_ hn_)), Or.elim hk_ (fun hs_ => fun e_ => Nat.not_le.2 hs_ (by rw [e_]; exact GW560.out)) (fun hn_ => (Kd.freshB (g := gb560) (o := .cells #[.int .i64 0, .int .i64 0, .string (⟨#[]⟩ : ByteArray), .slice none 0 0] 26 (0, 0)) (Cl.blk BK560.out) k_ hn_))⟩)) (below_size zb)); replace BK559 := (zK BK559 hb); replace BK560 := (zK BK560 hb); replace HB := (zB hb); (try clear hb); (try clear hb2); (try clear hk); (try clear hi); (try clear ho0)) | ((with_reducible refine zD 6 rfl ?_); refine zx 6 #[.int .i64 0, .int .i64 0, .string (⟨#[]⟩ : ByteArray), .slice none 0 0] 26 ?_; intro gb569 hg w24 hbox hb; replace HO566 := Aside0.mk (Kd.V_below (Kd.V_elderB (zV HO566) gb569 (Nat.le_of_eq hg.symm)) hb); have BK569 := Aside0.mk (hbox); have GW569 := (zq hg : Aside0 (w.heap.size ≤ gb569)); have GE569 := GW569; replace HB := (zB hb); have NB559_569 := (zl hg BK559 : Aside0 (gb559 ≠ gb569)); have NB569_559 := (zl' hg BK559 : Aside0 (gb569 ≠ gb559)); replace BK559 := (zK BK559 hb); have NB560_569 := (zl hg BK560 : Aside0 (gb560 ≠ gb569)); have NB569_560 := (zl' hg BK560 : Aside0 (gb569 ≠ gb560)); replace BK560 := (zK BK560 hb); clear hb hbox hg; have hnb25 := NB569_559.out; have hnc25 := NB559_569.out; have hnb26 := NB569_560.out; have hnc26 := NB560_569.out; obtain ⟨hcz27_0, hcz27_1, hcz27_2, hcz27_3⟩ := zc4 BK569; obtain ⟨hfz27_0, hfz27_1, hfz27_2, hfz27_3⟩ := zz4 BK569; obtain ⟨Ao28, co28, eo28⟩ := Kd.V_slice HO566.out; subst eo28; obtain ⟨hcz29_0, hcz29_1, hcz29_2, hcz29_3⟩ := zc4 BK560; obtain ⟨hfz29_0, hfz29_1, hfz29_2, hfz29_3⟩ := zz4 BK560))
  refine bodyPost_ret (results_ct rfl _ _ gb560 26 #[.int .i64 0, .int .i64 0, .string (⟨#[]⟩ : ByteArray), .slice none 0 0] (0, 0) _ rfl zw Try.underlying26 rfl (by kernel_rfl)) rfl ?_; exact ⟨_, zr, by first | exact Kd.R_nil _ _ _ _ _ | exact Kd.N_nil _ _ _ _ _ | exact Kd.V_nil _ _ _ _ _ | exact Kd.Q_nil _ _ _ _ _ | exact Kd.S_nil _ _ _ _ _, zb⟩

/-! ### token_IsTrivia: function 105 -/
def token_IsTrivia.f (a0_0 : Int) (a0_1 : ByteArray) : Option (Bool) := if a0_0 = 1 then (some true) else (some (a0_0 == 2))
set_option maxHeartbeats 8000000 in
set_option maxRecDepth 100000 in
theorem token_IsTrivia.calls (a0_0 : Int) (a0_1 : ByteArray) (r : Bool) (w : World) (h : token_IsTrivia.f a0_0 a0_1 = some r) :
  Calls Try.prog 105 #[.agg #[.int .i64 a0_0, .string a0_1]] w fun e w' => e = .returned (.bool r) ∧ Below w.heap.size w w' := by
 have hu23 := Try.underlying23; have HB := Aside0.mk (Below.refl w.heap.size w); have H : (if a0_0 = 1 then (some true) else (some (a0_0 == 2))) = some r := h; clear h; by_cases c2 : a0_0 = 1
 ·rw [if_pos c2] at H; have c2b0 : (a0_0 == 1) = true := beq_iff_eq.mpr c2; have c2b1 : (a0_0 != 1) = false := bne_eq_false_iff_eq.mpr c2; clear c2; obtain rfl := Option.some.inj H; go_enter Try.func105, Try.ntmps105
  go_wp2_with (first | ((with_reducible refine zD 1 rfl ?_); refine zx 1 #[.int .i64 a0_0, .string a0_1] 23 ?_; intro gb741 hg w3 hbox hb; have BK741 := Aside0.mk (hbox); have GW741 := (zq hg : Aside0 (w.heap.size ≤ gb741)); have GE741 := GW741; replace HB := (zB hb); clear hb hbox hg; obtain ⟨hcz4_0, hcz4_1⟩ := zc2 BK741; obtain ⟨hfz4_0, hfz4_1⟩ := zz2 BK741))
  go_ret; exact ⟨zr, zb⟩
 ·rw [if_neg c2] at H; have c2b0 : (a0_0 == 1) = false := beq_eq_false_iff_ne.mpr c2; have c2b1 : (a0_0 != 1) = true := bne_iff_ne.mpr c2; obtain rfl := Option.some.inj H; go_enter Try.func105, Try.ntmps105
  go_wp2_with (first | ((with_reducible refine zD 1 rfl ?_); refine zx 1 #[.int .i64 a0_0, .string a0_1] 23 ?_; intro gb741 hg w5 hbox hb; have BK741 := Aside0.mk (hbox); have GW741 := (zq hg : Aside0 (w.heap.size ≤ gb741)); have GE741 := GW741; replace HB := (zB hb); clear hb hbox hg; obtain ⟨hcz6_0, hcz6_1⟩ := zc2 BK741; obtain ⟨hfz6_0, hfz6_1⟩ := zz2 BK741))
  go_ret; exact ⟨zr, zb⟩

end Go.Proofs.Ytnafnieocpkkhaa.P

namespace Go.Proofs.Ytnafnieocpkkhaa.P
open Go.RowKit Go.Proofs.YtnafnieocpkkhaaW.PrintWords Go.Proofs.YtnafnieocpkkhaaW.PrintLast Go.Proofs.YtnafnieocpkkhaaW.PrintMore
attribute [local go_sem] max2_int min2_int max_two min_two max_three min_three max_four min_four
set_option linter.unusedVariables false
set_option linter.unusedSimpArgs false

/-! ### marginaliaref05_Width: function 21 -/
mutual
def marginaliaref05_Width.l0 : Nat → Int → Int → Int → Int → ByteArray → List (S26) → Option (Int)
 | 0, _, _, _, _, _, _ => none
 | k + 1, x3, x4, x248000, x248001, x248002, x248003 => if x4 < (x248003.length : Int) then (if 0 ≤ x4 then ((marginaliaref05_Width.f k ((rd_T26 x248003 x4).f0) ((rd_T26 x248003 x4).f1.f0) ((rd_T26 x248003 x4).f1.f1) ((rd_T26 x248003 x4).f2)).bind fun t249 => (marginaliaref05_Width.l0 k (wrap64 (x3 + t249)) (wrap64 (x4 + 1)) x248000 x248001 x248002 x248003)) else (none)) else (some x3)
def marginaliaref05_Width.f : Nat → Int → Int → ByteArray → List (S26) → Option (Int)
 | 0, _, _, _, _ => none
 | k + 1, a0_0, a0_1, a0_2, l0_3 => if a0_0 = 1 then (some (a0_2.size : Int)) else (marginaliaref05_Width.l0 k 0 0 a0_0 a0_1 a0_2 l0_3)
end
set_option maxHeartbeats 8000000 in
set_option maxRecDepth 100000 in
theorem marginaliaref05_Width.calls (k : Nat) : ∀ (a0_0 : Int) (a0_1 : Int) (a0_2 : ByteArray) (A0_3 : Option Addr) (c0_3 : Nat) (l0_3 : List (S26)) (r : Int) (w : World) (hr0_3 : Kd.C k26 w A0_3 l0_3.length l0_3) (hc0_3 : l0_3.length ≤ c0_3) (h : marginaliaref05_Width.f k a0_0 a0_1 a0_2 l0_3 = some r),
  Calls Try.prog 21 #[.agg #[.int .i64 a0_0, .int .i64 a0_1, .string a0_2, .slice A0_3 l0_3.length c0_3]] w fun e w' => e = .returned (.int .i64 r) ∧ Below w.heap.size w w' := by
 induction k using Nat.strongRecOn with
 | _ k ih =>
 intro a0_0 a0_1 a0_2 A0_3 c0_3 l0_3 r w hr0_3 hc0_3 h
 cases k with
 | zero => exact absurd h (by simp [marginaliaref05_Width.f])
 | succ k =>
 simp only [marginaliaref05_Width.f] at h; have hu26 := Try.underlying26; have HR0_3 := Aside0.mk hr0_3; have HC0_3 := Aside0.mk hc0_3; clear hr0_3 hc0_3; have HB := Aside0.mk (Below.refl w.heap.size w); have H : (if a0_0 = 1 then (some (a0_2.size : Int)) else (marginaliaref05_Width.l0 k 0 0 a0_0 a0_1 a0_2 l0_3)) = some r := h; clear h; by_cases c2 : a0_0 = 1
 ·rw [if_pos c2] at H; have c2b0 : (a0_0 == 1) = true := beq_iff_eq.mpr c2; have c2b1 : (a0_0 != 1) = false := bne_eq_false_iff_eq.mpr c2; clear c2; obtain rfl := Option.some.inj H; go_enter Try.func21, Try.ntmps21
  go_wp2_with (first | ((with_reducible refine zD 1 rfl ?_); refine zx 1 #[.int .i64 a0_0, .int .i64 a0_1, .string a0_2, .slice A0_3 l0_3.length c0_3] 26 ?_; intro gb247 hg w3 hbox hb; have BK247 := Aside0.mk (hbox); have GW247 := (zq hg : Aside0 (w.heap.size ≤ gb247)); have GE247 := GW247; replace HB := (zB hb); clear hb hbox hg; obtain ⟨hcz4_0, hcz4_1, hcz4_2, hcz4_3⟩ := zc4 BK247; obtain ⟨hfz4_0, hfz4_1, hfz4_2, hfz4_3⟩ := zz4 BK247))
  go_ret; exact ⟨zr, zb⟩
 ·rw [if_neg c2] at H; have c2b0 : (a0_0 == 1) = false := beq_eq_false_iff_ne.mpr c2; have c2b1 : (a0_0 != 1) = true := bne_iff_ne.mpr c2; have H' := Aside0.mk H; clear H; go_enter Try.func21, Try.ntmps21
  go_wp2_with (first | ((with_reducible refine zD 1 rfl ?_); refine zx 1 #[.int .i64 a0_0, .int .i64 a0_1, .string a0_2, .slice A0_3 l0_3.length c0_3] 26 ?_; intro gb247 hg w5 hbox hb; have BK247 := Aside0.mk (hbox); have GW247 := (zq hg : Aside0 (w.heap.size ≤ gb247)); have GE247 := GW247; replace HB := (zB hb); clear hb hbox hg; obtain ⟨hcz6_0, hcz6_1, hcz6_2, hcz6_3⟩ := zc4 BK247; obtain ⟨hfz6_0, hfz6_1, hfz6_2, hfz6_3⟩ := zz4 BK247))
  go_loopg [3, 4] k (fun kq v3 v4 w' => ∃ (x3_1 : Int) (x4_1 : Int), v3 = .int .i64 x3_1 ∧ v4 = .int .i64 x4_1 ∧ Aside0 (marginaliaref05_Width.l0 kq x3_1 x4_1 a0_0 a0_1 a0_2 l0_3 = some r) ∧ Aside0 (kq ≤ k) ∧ Aside0 (w'.heap[gb247]? = some (.cells #[.int .i64 a0_0, .int .i64 a0_1, .string a0_2, (.slice A0_3 l0_3.length c0_3)] 26 (0, 0))) ∧ Aside0 (Below w.heap.size w w'))
  case atStart => exact ⟨(0), (0), zs, zs, H', ⟨Nat.le_refl _⟩, (zA BK247), ⟨zb⟩⟩
  case round =>
   clear H'; obtain ⟨x3_1, x4_1, rfl, rfl, HA, HK1, BK247, HB⟩ := hrel
   cases gk with
   | zero => exact absurd HA.out (by simp [marginaliaref05_Width.l0])
   | succ k1 =>
    have H := HA.out; clear HA; simp only [marginaliaref05_Width.l0] at H; by_cases c7 : x4_1 < (l0_3.length : Int)
    ·rw [if_pos c7] at H; have c7b0 := decide_eq_true c7; clear c7; replace H := zi1 H; obtain ⟨c8b0, H⟩ := H; replace H := zo H; obtain ⟨t249, A9, H⟩ := H; have H' := Aside0.mk H; clear H; obtain ⟨hcz10_0, hcz10_1, hcz10_2, hcz10_3⟩ := zc4 BK247; obtain ⟨hfz10_0, hfz10_1, hfz10_2, hfz10_3⟩ := zz4 BK247; have p248 : 0 ≤ (x4_1 : Int) := zt; have q248 : x4_1 < (l0_3.length : Int) := zt; obtain ⟨ad248, A248_3, c248_3, e248, hx248_0, hx248_1, hx248_2, hx248_3, hl248_3, hi248_3⟩ := at_T26 HR0_3.out x4_1 p248 q248
     cases e248
     replace hx248_0 := zh HB hx248_0; replace hx248_1 := zh HB hx248_1; replace hx248_2 := zh HB hx248_2; replace hx248_3 := zh HB hx248_3; have HR248_3 := Aside0.mk hi248_3; have HC248_3 := Aside0.mk hl248_3; clear hi248_3 hl248_3; replace p248 := eq_true p248; replace q248 := eq_true q248
     go_wp2_with (first | ((with_reducible refine zG 21 rfl ?_); refine zg 25 Try.func21 ((ih k1 (by have := HK1.out; omega) ((rd_T26 l0_3 x4_1).f0) ((rd_T26 l0_3 x4_1).f1.f0) ((rd_T26 l0_3 x4_1).f1.f1) _ _ ((rd_T26 l0_3 x4_1).f2) t249 _ ?side1 ?side2 A9.out).mono ?_); (case side1 => exact zC HR248_3); (case side2 => exact HC248_3.out); rintro e w11 ⟨rfl, hb⟩; refine ⟨_, rfl, ?_⟩; replace BK247 := (zK BK247 hb); replace HB := (zB hb); (try clear hb); (try clear hb2); (try clear hk); (try clear hi)))
     go_roundg k1
     case measure => have := HK1.out; omega
     case rel => exact ⟨(wrap64 (x3_1 + t249)), (wrap64 (x4_1 + 1)), zs, zs, H', zk, (zA BK247), ⟨zb⟩⟩
    ·rw [if_neg c7] at H; have c7b0 := decide_eq_false c7; clear c7; obtain rfl := Option.some.inj H; obtain ⟨hcz12_0, hcz12_1, hcz12_2, hcz12_3⟩ := zc4 BK247; obtain ⟨hfz12_0, hfz12_1, hfz12_2, hfz12_3⟩ := zz4 BK247; go_wp2; go_ret; exact ⟨zr, zb⟩

end Go.Proofs.Ytnafnieocpkkhaa.P

set_option linter.unusedVariables false
set_option linter.unusedSimpArgs false
namespace Go.Proofs.Ytnafnieocpkkhaa.P
open Go.RowKit Go.Proofs.YtnafnieocpkkhaaW.PrintWords Go.Proofs.YtnafnieocpkkhaaW.PrintLast Go.Proofs.YtnafnieocpkkhaaW.PrintMore
abbrev Tk := S23
theorem Nd.eta (x : Nd) : (⟨x.f0, ⟨x.f1.f0, x.f1.f1⟩, x.f2⟩ : Nd) = x := by cases x; rfl
/-! ### Cut -/
theorem One_ev (kind : Int) (s : ByteArray) : ∃ t, marginaliaref03_One.f kind s = some (kind, t) ∧ t.size ≤ 20001 ∧ (s.size ≤ 20001 → t = s) := by
 unfold marginaliaref03_One.f; have h : mn (s.size : Int) 20001 = ((min s.size 20001 : Nat) : Int) := mn_nat s.size 20001; rw [h, if_pos (by omega), if_pos (by omega)]; refine ⟨_, rfl, ?_, fun hs => ?_⟩
 ·rw [ByteArray.size_extract]; omega
 ·rw [Int.toNat_natCast, Nat.min_eq_left hs]; exact ByteArray.extract_zero_size
theorem wds_append (l : List Nd) (x : Nd) : ((l ++ [x]).map wd).sum = (l.map wd).sum + wd x := by
 simp
theorem nds_append (l : List Nd) (x : Nd) : ((l ++ [x]).map nd).sum = (l.map nd).sum + nd x := by
 simp
def cutP (n : Nd) : Prop := ∀ left depth : Nat, 1 ≤ left → left ≤ 1000 → depth ≤ 1003 → ∃ m : Nd, Ev (fun k => marginaliaref05_cut.f k n.f0 n.f1.f0 n.f1.f1 n.f2 (left : Int) (depth : Int)) (m.f0, m.f1.f0, m.f1.f1, m.f2, ((left - nd m : Nat) : Int)) ∧ nd m ≤ left ∧ wd m ≤ 20001 * nd m
theorem cut_loop (n : Nd) (k0 : Int) (t : Tk) (ht : t.f1.size ≤ 20001) (left depth : Nat) (hl : left ≤ 1000) (hdep : depth ≤ 1003) : ∀ (r : List Nd) (i : Nat) (acc : List Nd), n.f2.drop i = r → acc.length = i → (∀ x ∈ r, cutP x) → (acc.map nd).sum + 1 ≤ left → (acc.map wd).sum ≤ 20001 * (acc.map nd).sum →
  ∃ m : Nd, Ev (fun k => marginaliaref05_cut.l0 k (depth : Int) ((left - 1 - (acc.map nd).sum : Nat) : Int) (i : Int) n.f0 n.f1.f0 n.f1.f1 n.f2 k0 t.f0 t.f1 acc) (m.f0, m.f1.f0, m.f1.f1, m.f2, ((left - nd m : Nat) : Int)) ∧ nd m ≤ left ∧ wd m ≤ 20001 * nd m := by
 intro r
 induction r with
 | nil =>
  intro i acc hd ha hx hn hw; have := le_of_nil hd; have e1 : nd ⟨k0, t, acc⟩ = 1 + (acc.map nd).sum := nd_eq _; have e2 : wd ⟨k0, t, acc⟩ = t.f1.size + (acc.map wd).sum := wd_eq _; refine ⟨⟨k0, t, acc⟩, Ev.shift ?_, by omega, by rw [e1, e2]; omega⟩; simp only [marginaliaref05_cut.l0]; refine Ev.neg (by omega) ?_; rw [show left - nd ⟨k0, t, acc⟩ = left - 1 - (acc.map nd).sum by omega]; exact Ev.now _
 | cons e r ih =>
  intro i acc hd ha hx hn hw; have hlt := lt_of_drop hd; have hal := len_le acc; have e1 : nd ⟨k0, t, acc⟩ = 1 + (acc.map nd).sum := nd_eq _; have e2 : wd ⟨k0, t, acc⟩ = t.f1.size + (acc.map wd).sum := wd_eq _
  have stop : ∃ m : Nd, Ev (fun k => some (k0, t.f0, t.f1, acc, ((left - 1 - (acc.map nd).sum : Nat) : Int))) (m.f0, m.f1.f0, m.f1.f1, m.f2, ((left - nd m : Nat) : Int)) ∧ nd m ≤ left ∧ wd m ≤ 20001 * nd m := by
   refine ⟨⟨k0, t, acc⟩, ?_, by omega, by rw [e1, e2]; omega⟩; rw [show left - nd ⟨k0, t, acc⟩ = left - 1 - (acc.map nd).sum by omega]; exact Ev.now _
  by_cases h1 : 0 < left - 1 - (acc.map nd).sum
  ·by_cases h2 : depth ≤ 1002
   ·obtain ⟨x, hx1, hx2, hx3⟩ := hx e List.mem_cons_self (left - 1 - (acc.map nd).sum) (depth + 1) (by omega) (by omega) (by omega); have hxp := nd_pos x; obtain ⟨m, hm, hm2⟩ := ih (i + 1) (acc ++ [x]) (drop_next hd) (by simp [ha]) (fun y hy => hx y (List.mem_cons_of_mem _ hy)) (by rw [nds_append]; omega) (by rw [nds_append, wds_append]; omega); refine ⟨m, Ev.shift ?_, hm2⟩; simp only [marginaliaref05_cut.l0]; rw [rd_nd hd, w64 (n := (depth : Int) + 1) (by omega) (by omega), w64 (n := (i : Int) + 1) (by omega) (by omega)]; refine Ev.pos (by omega) (Ev.pos (by omega) (Ev.pos (by omega) (Ev.pos (by omega) (Ev.bind (by exact_mod_cast hx1) ?_)))); refine Ev.pos (by omega) ?_; rw [show left - 1 - ((acc ++ [x]).map nd).sum = left - 1 - (acc.map nd).sum - nd x by rw [nds_append]; omega] at hm; simp only [Nd.eta]; exact hm
   ·obtain ⟨m, hm, hm2⟩ := stop; refine ⟨m, Ev.shift ?_, hm2⟩; simp only [marginaliaref05_cut.l0]; exact Ev.pos (by omega) (Ev.pos (by omega) (Ev.neg (by omega) hm))
  ·obtain ⟨m, hm, hm2⟩ := stop; refine ⟨m, Ev.shift ?_, hm2⟩; simp only [marginaliaref05_cut.l0]; exact Ev.pos (by omega) (Ev.neg (by omega) hm)
theorem cut_ev : ∀ n : Nd, cutP n := by
 refine Nd.ind ?_; intro n ih left depth h1 h2 h3; obtain ⟨t, ht, hz, _⟩ := One_ev n.f1.f0 n.f1.f1; obtain ⟨m, hm, hm2⟩ := cut_loop n n.f0 ⟨n.f1.f0, t⟩ hz left depth h2 h3 n.f2 0 [] rfl rfl ih (by simpa using h1) (by simp); refine ⟨m, Ev.shift ?_, hm2⟩; simp only [marginaliaref05_cut.f]; refine Ev.bind1 ht ?_; rw [w64 (n := (left : Int) - 1) (by omega) (by omega), show (left : Int) - 1 = ((left - 1 - (([] : List Nd).map nd).sum : Nat) : Int) by simp only [List.map_nil, List.sum_nil]; omega]; exact hm
/-- The law's cut: at most 600 leaves and nodes, with texts of at most 20001 bytes. -/
theorem lawcut_ev (n : Nd) : ∃ m : Nd, Ev (fun k => marginalialaw05_cut.f k n.f0 n.f1.f0 n.f1.f1 n.f2) (m.f0, m.f1.f0, m.f1.f1, m.f2) ∧ nd m ≤ 600 ∧ wd m ≤ 12000600 := by
 obtain ⟨m, h1, h2, h3⟩ := cut_ev n 600 0 (by omega) (by omega) (by omega); refine ⟨m, ?_, h2, by omega⟩; unfold marginalialaw05_cut.f marginaliaref05_Cut.f; exact Ev.bind (Ev.bind h1 (Ev.now _)) (Ev.now _)
/-! ### positions -/
def wds (l : List Nd) : Nat := (l.map wd).sum
theorem wds_take_succ {l : List Nd} {i : Nat} {x : Nd} (h : l[i]? = some x) : wds (l.take (i + 1)) = wds (l.take i) + wd x := by
 unfold wds; rw [List.take_add_one, h, List.map_append, List.sum_append]
 simp
theorem wds_take_le (l : List Nd) (i : Nat) : wds (l.take i) ≤ wds l := by
 unfold wds
 conv => rhs; rw [← List.take_append_drop i l, List.map_append, List.sum_append]
 omega
theorem wds_split {l : List Nd} {i : Nat} {x : Nd} (h : l[i]? = some x) : wds (l.take i) + wd x ≤ wds l := by
 rw [← wds_take_succ h]; exact wds_take_le l _
theorem wd_wds (n : Nd) : wd n = n.f1.f1.size + wds n.f2 := wd_eq n
/-- What is at a position, and where it begins. -/
def atp : List Int → Nd → Option (Nd × Nat)
 | [], n => some (n, 0)
 | i :: p, n => if 0 ≤ i then (n.f2[i.toNat]?).bind fun x => (atp p x).map fun y => (y.1, wds (n.f2.take i.toNat) + y.2) else none
theorem atp_sm : ∀ {p : List Int} {n x : Nd} {o : Nat}, sm n → atp p n = some (x, o) → sm x ∧ o + wd x ≤ wd n := by
 intro p
 induction p with
 | nil =>
  intro n x o hs h; simp only [atp, Option.some.injEq, Prod.mk.injEq] at h; obtain ⟨rfl, rfl⟩ := h; exact ⟨hs, by omega⟩
 | cons i p ih =>
  intro n x o hs h; rw [atp] at h
  split at h
  ·cases e : n.f2[i.toNat]? with
   | none => rw [e] at h; cases h
   | some y =>
    rw [e, Option.bind_some] at h
    cases e2 : atp p y with
    | none => rw [e2] at h; cases h
    | some z =>
     rw [e2] at h; simp only [Option.map_some, Option.some.injEq, Prod.mk.injEq] at h; obtain ⟨rfl, rfl⟩ := h; obtain ⟨q1, q2⟩ := ih (hs.kid (List.mem_of_getElem? e)) e2; have := wds_split e; have := wd_wds n; exact ⟨q1, by omega⟩
  ·cases h
theorem atp_fo : ∀ {p : List Int} {n x : Nd} {o m : Nat}, fo m n = true → atp p n = some (x, o) → ∃ m', fo m' x = true := by
 intro p
 induction p with
 | nil =>
  intro n x o m hs h; simp only [atp, Option.some.injEq, Prod.mk.injEq] at h; obtain ⟨rfl, rfl⟩ := h; exact ⟨m, hs⟩
 | cons i p ih =>
  intro n x o m hs h; rw [atp] at h
  split at h
  ·cases e : n.f2[i.toNat]? with
   | none => rw [e] at h; cases h
   | some y =>
    rw [e, Option.bind_some] at h
    cases e2 : atp p y with
    | none => rw [e2] at h; cases h
    | some z =>
     rw [e2] at h; simp only [Option.map_some, Option.some.injEq, Prod.mk.injEq] at h; obtain ⟨rfl, rfl⟩ := h; have hy := List.mem_of_getElem? e
     cases m with
     | zero => cases hs
     | succ m =>
      rw [fo] at hs
      split at hs
      ·rw [Bool.and_eq_true, decide_eq_true_eq] at hs; rw [List.eq_nil_of_length_eq_zero hs.1] at hy
       cases hy
      ·rw [Bool.and_eq_true] at hs; exact ih (List.all_eq_true.1 hs.2 y hy) e2
  ·cases h
theorem rd_drop {l : List Int} {i : Nat} {e : Int} {r : List Int} (h : l.drop i = e :: r) : rd l (i : Int) = e := by
 have h1 : l[i]? = some e := by
  have := congrArg (fun x : List Int => x[0]?) h
  simpa [List.getElem?_drop] using this
 simp [rd, List.getD_eq_getElem?_getD, h1]
theorem rd_at {l : List Nd} {i : Nat} {e : Nd} (h : l[i]? = some e) : rd_T26 l (i : Int) = e := by
 simp [rd_T26, List.getD_eq_getElem?_getD, h]
theorem at_in (q : List Int) (i : Int) (j : Nat) (n : Nd) (h0 : 0 ≤ i) (hi : i.toNat < n.f2.length) (hs : sm n) (l : List Nd) (hl : l = n.f2.take i.toNat) (x : Nd) (hx : n.f2[i.toNat]? = some x) {R : Int × Int × ByteArray × List Nd × Int × Bool} (hq : j < q.length) (hqz : q.length ≤ 1000000000) (off : Nat)
  (H : Ev (fun k => tree_at.l0 k ((off + wds l : Nat) : Int) q (q.length : Int) ((j + 1 : Nat) : Int) x.f0 x.f1.f0 x.f1.f1 x.f2) R) (ho : off + wds l ≤ 1000000000) : ∀ (r : List Nd) (a : Nat), l.drop a = r →
  Ev (fun k => tree_at.l1 k ((off + wds (l.take a) : Nat) : Int) i q (q.length : Int) (j : Int) l (l.length : Int) (a : Int) n.f0 n.f1.f0 n.f1.f1 n.f2) R := by
 have hll : l.length ≤ 1000000 := (by rw [hl, List.length_take]; have := hs.len; omega)
 intro r
 induction r with
 | nil =>
  intro a hd; have hle := le_of_nil hd
  have e0 : rd_T26 n.f2 i = x := (by have := rd_at hx; rwa [Int.toNat_of_nonneg h0] at this)
  refine Ev.shift ?_; simp only [tree_at.l1]; rw [e0, List.take_of_length_le hle]; refine Ev.neg (by omega) (Ev.pos h0 (Ev.pos (by omega) ?_)); rw [w64 (n := (j : Int) + 1) (by omega) (by omega)]
  exact_mod_cast H
 | cons e r ih =>
  intro a hd; have hlt := lt_of_drop hd
  have h1 : l[a]? = some e := by
   have := congrArg (fun x : List Nd => x[0]?) hd
   simpa [List.getElem?_drop] using this
  have hm : e ∈ n.f2 := List.mem_of_mem_take (by rw [← hl]; exact List.mem_of_getElem? h1); have hse := hs.kid hm; have hw := wds_split h1; have hw2 := wds_take_succ h1; refine Ev.shift ?_; simp only [tree_at.l1]; rw [rd_nd hd]; refine Ev.pos (by omega) (Ev.pos (by omega) (Ev.pos (by omega) (Ev.bind (width_ev e hse.1 hse.2) ?_))); rw [w64 (n := ((off + wds (l.take a) : Nat) : Int) + (wd e : Int)) (by omega) (by omega), w64 (n := (a : Int) + 1) (by omega) (by omega)]; have := ih (a + 1) (drop_next hd); rw [hw2, ← Nat.add_assoc] at this
  exact_mod_cast this
def ans : Nat → Option (Nd × Nat) → Int × Int × ByteArray × List Nd × Int × Bool
 | off, some (x, o) => (x.f0, x.f1.f0, x.f1.f1, x.f2, ((off + o : Nat) : Int), true)
 | _, none => (0, 0, ⟨#[]⟩, [], 0, false)
theorem at_loop (q : List Int) (hqz : q.length ≤ 1000000000) : ∀ (p : List Int) (j : Nat) (n : Nd) (off : Nat), q.drop j = p → sm n → off + wd n ≤ 1000000000 →
  Ev (fun k => tree_at.l0 k (off : Int) q (q.length : Int) (j : Int) n.f0 n.f1.f0 n.f1.f1 n.f2) (ans off (atp p n)) := by
 intro p
 induction p with
 | nil =>
  intro j n off hd hs ho; have := le_of_nil hd; refine Ev.shift ?_; simp only [tree_at.l0]; refine Ev.neg (by omega) ?_; exact Ev.now _
 | cons i p ih =>
  intro j n off hd hs ho; have hlt := lt_of_drop hd; refine Ev.shift ?_; simp only [tree_at.l0]; rw [rd_drop hd]; refine Ev.pos (by omega) (Ev.pos (by omega) (Ev.pos (by omega) ?_)); rw [atp]; by_cases h0 : i < 0
  ·rw [if_neg (by omega)]; refine Ev.pos h0 (Ev.shift ?_); simp only [tree_at.j1]; exact Ev.pos trivial (Ev.now _)
  ·rw [if_pos (by omega)]; refine Ev.neg h0 (Ev.shift ?_); simp only [tree_at.j1]; by_cases h1 : i.toNat < n.f2.length
   ·have hx : n.f2[i.toNat]? = some (n.f2[i.toNat]'h1) := List.getElem?_eq_getElem h1; generalize n.f2[i.toNat]'h1 = x at hx; rw [hx, Option.bind_some]; have hsx := hs.kid (List.mem_of_getElem? hx); have hw := wds_split hx; have hwn := wd_wds n; refine Ev.neg (by rw [decide_eq_false (by omega)]; decide) (Ev.pos (by omega) (Ev.pos (by omega) ?_)); refine Ev.bind1 rfl ?_; have H := ih (j + 1) x (off + wds (n.f2.take i.toNat)) (drop_next hd) hsx (by omega)
    have e2 : ans (off + wds (n.f2.take i.toNat)) (atp p x) = ans off ((atp p x).map fun y => (y.1, wds (n.f2.take i.toNat) + y.2)) := by
     cases atp p x with
     | none => rfl
     | some z => show (_, _, _, _, _, _) = (_, _, _, _, _, _); rw [Nat.add_assoc]
    rw [e2] at H; have := at_in q i j n (by omega) h1 hs (n.f2.take i.toNat) rfl x hx hlt hqz off H (by omega) _ 0 rfl
    simpa [wds] using this
   ·rw [List.getElem?_eq_none (by omega)]; refine Ev.pos (decide_eq_true (by omega)) ?_; exact Ev.now _
theorem at_ev (n : Nd) (p : List Int) (hs : sm n) (hp : p.length ≤ 1000000000) : Ev (fun k => tree_at.f k n.f0 n.f1.f0 n.f1.f1 n.f2 p) (ans 0 (atp p n)) := by
 unfold tree_at.f; exact at_loop p hp p 0 n 0 rfl hs (by have := hs.1; omega)
/-- find's answer. -/
def fans (b : Bool) : Option (Nd × Nat) → Int × Int × ByteArray × List Nd × Int × Int
 | some (x, o) => if b = true then (x.f0, x.f1.f0, x.f1.f1, x.f2, (o : Int), 0) else (0, 0, ⟨#[]⟩, [], 0, 4)
 | none => if b = true then (0, 0, ⟨#[]⟩, [], 0, 2) else (0, 0, ⟨#[]⟩, [], 0, 4)
theorem find_ev (n : Nd) (p : List Int) (hs : sm n) (hp : p.length ≤ 1000000000) : Ev (fun k => tree_find.f k n.f0 n.f1.f0 n.f1.f1 n.f2 p) (fans (fmd n) (atp p n)) := by
 unfold tree_find.f; refine Ev.bind (IsFormed_ev n hs) ?_; by_cases h : fmd n = true
 ·rw [h]; refine Ev.pos rfl (Ev.bind (at_ev n p hs hp) ?_)
  cases atp p n with
  | none => exact Ev.now _
  | some z =>
   have e1 : ans 0 (some z) = (z.1.f0, z.1.f1.f0, z.1.f1.f1, z.1.f2, (z.2 : Int), true) := (by show (_, _, _, _, _, _) = _; rw [Nat.zero_add])
   rw [e1]; exact Ev.now _
 ·rw [Bool.not_eq_true] at h; rw [h]; refine Ev.neg (by decide) ?_
  cases atp p n with
  | none => exact Ev.now _
  | some z => exact Ev.now _
theorem span_ev (n : Nd) (p : List Int) (hs : sm n) (hp : p.length ≤ 1000000000) (hf : fmd n = true) {x : Nd} {o : Nat} (hx : atp p n = some (x, o)) : Ev (fun k => tree_Span.f k n.f0 n.f1.f0 n.f1.f1 n.f2 p) ((o : Int), ((o + wd x : Nat) : Int), 0) := by
 have := find_ev n p hs hp; rw [hf, hx] at this; have hw := atp_sm hs hx; have := hs.1; unfold tree_Span.f; refine Ev.bind (find_ev n p hs hp) ?_; rw [hf, hx]; refine Ev.pos rfl (Ev.bind (width_ev x hw.1.1 hw.1.2) ?_); have e1 : (fans true (some (x, o))).2.2.2.2.1 = (o : Int) := rfl; rw [e1, w64 (n := (o : Int) + (wd x : Int)) (by omega) (by omega)]; exact Ev.now _
theorem ok_ev : ∀ n : Nd, sm n → ∃ K, ∀ k, K ≤ k → tree_Clone.ok k n = true := by
 refine Nd.ind ?_; intro n ih hs
 have : ∀ l : List Nd, (∀ x ∈ l, x ∈ n.f2) → ∃ K, ∀ k, K ≤ k → l.all (tree_Clone.ok k) = true := by
  intro l
  induction l with
  | nil => intro _; exact ⟨0, fun _ _ => rfl⟩
  | cons x r ihl =>
   intro h; obtain ⟨K1, h1⟩ := ih x (h x List.mem_cons_self) (hs.kid (h x List.mem_cons_self)); obtain ⟨K2, h2⟩ := ihl (fun y hy => h y (List.mem_cons_of_mem _ hy)); exact ⟨max K1 K2, fun k hk => by rw [List.all_cons, h1 k (by omega), h2 k (by omega)]; rfl⟩
 obtain ⟨K, hK⟩ := this n.f2 (fun _ h => h); refine ⟨K + 1, fun k hk => ?_⟩
 obtain ⟨k, rfl⟩ : ∃ j, k = j + 1 := ⟨k - 1, by omega⟩
 rw [tree_Clone.ok, hK k (by omega), decide_eq_true hs.len]; rfl
theorem clone_ev (n : Nd) (hs : sm n) : Ev (fun k => tree_Clone.f k n.f0 n.f1.f0 n.f1.f1 n.f2) (n.f0, n.f1.f0, n.f1.f1, n.f2) := by
 obtain ⟨K, hK⟩ := ok_ev n hs; refine ⟨K, fun k hk => ?_⟩
 show tree_Clone.f k n.f0 n.f1.f0 n.f1.f1 n.f2 = _
 unfold tree_Clone.f; rw [Nd.eta, if_pos (hK k hk)]
theorem At_ev (n : Nd) (p : List Int) (hs : sm n) (hp : p.length ≤ 1000000000) (hf : fmd n = true) {x : Nd} {o : Nat} (hx : atp p n = some (x, o)) : Ev (fun k => tree_At.f k n.f0 n.f1.f0 n.f1.f1 n.f2 p) (x.f0, x.f1.f0, x.f1.f1, x.f2, 0) := by
 have hw := atp_sm hs hx; unfold tree_At.f; refine Ev.bind (find_ev n p hs hp) ?_; rw [hf, hx]; refine Ev.pos rfl (Ev.bind (clone_ev x hw.1) ?_); exact Ev.now _
end Go.Proofs.Ytnafnieocpkkhaa.P

namespace Go.Proofs.Ytnafnieocpkkhaa.P
open Go.RowKit Go.Proofs.YtnafnieocpkkhaaW.PrintWords Go.Proofs.YtnafnieocpkkhaaW.PrintLast Go.Proofs.YtnafnieocpkkhaaW.PrintMore
attribute [local go_sem] max2_int min2_int max_two min_two max_three min_three max_four min_four
set_option linter.unusedVariables false
set_option linter.unusedSimpArgs false

/-- The first kid, from one on, in which an offset is: which one, the kid, the offset in it. -/
def tree_Find.scan (k : Nat) : List (S26) → Int → Nat → Option (Nat × S26 × Int)
 | [], _, _ => none
 | x :: r, off, i => (tree_width.f k x.f0 x.f1.f0 x.f1.f1 x.f2).bind fun w => if off < w then some (i, x, off) else tree_Find.scan k r (wrap64 (off - w)) (i + 1)
def tree_Find.go (k : Nat) : Nat → S26 → Int → List Int → Option (List Int)
 | 0, _, _, _ => none
 | m + 1, n, off, acc => if n.f0 = 1 then some acc else (tree_Find.scan k n.f2 off 0).bind fun x => if acc.length < 17592186044416 then tree_Find.go k m x.2.1 x.2.2 (acc ++ [(x.1 : Int)]) else none
def tree_Find.f (k : Nat) (a0_0 : Int) (a0_1 : Int) (a0_2 : ByteArray) (l0_3 : List (S26)) (a1 : Int) : Option (List Int × Int) :=
 (tree_IsFormed.f k a0_0 a0_1 a0_2 l0_3).bind fun b => if b = true then
  (tree_width.f k a0_0 a0_1 a0_2 l0_3).bind fun w => if a1 < 0 then some ([], 2) else if a1 > w then some ([], 2) else if w = 0 then some ([], 5) else (tree_Find.go k k ⟨a0_0, ⟨a0_1, a0_2⟩, l0_3⟩ (mn a1 (wrap64 (w - 1))) []).bind fun l => some (l, 0)
 else some ([], 4)
theorem tree_Find.infoInt : (Try.prog.info? 3).map (fun i => (i.zero, i.size, i.bytes)) = some (some (.int .i64 0), 1, 8) := by kernel_rfl
attribute [local go_sem] max2_int min2_int max_two min_two max_three min_three max_four min_four
set_option maxHeartbeats 8000000 in
set_option maxRecDepth 100000 in
theorem tree_Find.calls (k : Nat) (a0_0 : Int) (a0_1 : Int) (a0_2 : ByteArray) (A0_3 : Option Addr) (c0_3 : Nat) (l0_3 : List (S26)) (a1 : Int) (r1 : List Int) (r2 : Int) (w : World) (hr0_3 : Kd.C k26 w A0_3 l0_3.length l0_3) (hc0_3 : l0_3.length ≤ c0_3) (h : tree_Find.f k a0_0 a0_1 a0_2 l0_3 a1 = some (r1, r2)) :
  Calls Try.prog 16 #[.agg #[.int .i64 a0_0, .int .i64 a0_1, .string a0_2, .slice A0_3 l0_3.length c0_3], .int .i64 a1] w fun e w' => ∃ v0_ : Value, e = .returned (.tuple #[v0_, .int .i64 r2]) ∧ Kd.R (Kd.int .i64) 3 w' w.heap.size (fun _ => True) v0_ r1 ∧ Below w.heap.size w w' := by
 have hu := Try.underlying26; unfold tree_Find.f at h; obtain ⟨b, hb, h⟩ := Option.bind_eq_some_iff.mp h; have HB := Aside0.mk (below_alloc (Below.refl w.heap.size w) (.cells #[.int .i64 a0_0, .int .i64 a0_1, .string a0_2, .slice A0_3 l0_3.length c0_3] 26)); have HG := Aside0.mk (blk_new w (.cells #[.int .i64 a0_0, .int .i64 a0_1, .string a0_2, .slice A0_3 l0_3.length c0_3] 26)); have HF := Aside0.mk hb; have HR := Aside0.mk hr0_3; clear hb hr0_3
 cases b with
 | false =>
  rw [if_neg (by decide)] at h; simp only [Option.some.injEq, Prod.mk.injEq] at h; obtain ⟨rfl, rfl⟩ := h; go_enter Try.func16, Try.ntmps16; go_wp2
  go_step3
  go_wp2_with (go_at_call 30; refine (tree_IsFormed.calls k _ _ _ _ _ _ _ _ (Kd.C_below HR.out HB.out) hc0_3 HF.out).mono ?_; rintro e w1 ⟨rfl, hb⟩; have HB1 := Aside0.mk (token_good.step HB.out hb); clear hb)
  (try rw [Exit.noGoto_ret])
  go_ret2
  exact ⟨_, rfl, Kd.R_nil _ _ _ _ _, HB1.out⟩
 | true =>
  rw [if_pos rfl] at h; obtain ⟨wd, hw, h⟩ := Option.bind_eq_some_iff.mp h; have HW := Aside0.mk hw; clear hw; by_cases c1 : a1 < 0
  ·rw [if_pos c1] at h; simp only [Option.some.injEq, Prod.mk.injEq] at h; obtain ⟨rfl, rfl⟩ := h; have c1b : decide (a1 < 0) = true := decide_eq_true c1; clear c1; go_enter Try.func16, Try.ntmps16; go_wp2
   go_step3
   go_wp2_with (first | (go_at_call 30; refine (tree_IsFormed.calls k _ _ _ _ _ _ _ _ (Kd.C_below HR.out HB.out) hc0_3 HF.out).mono ?_; rintro e w1 ⟨rfl, hb⟩; have HB1 := Aside0.mk (token_good.step HB.out hb); have HG1 := Aside0.mk (blk_below HG.out hb); have z0 : w1.cell? ⟨w.heap.size, 0, none⟩ = some (.int .i64 a0_0) := Lib.cell_of_heap HG1.out 0; have z1 : w1.cell? ⟨w.heap.size, 1, none⟩ = some (.int .i64 a0_1) := Lib.cell_of_heap HG1.out 1; have z2 : w1.cell? ⟨w.heap.size, 2, none⟩ = some (.string a0_2) := Lib.cell_of_heap HG1.out 2; have z3 : w1.cell? ⟨w.heap.size, 3, none⟩ = some (.slice A0_3 l0_3.length c0_3) := Lib.cell_of_heap HG1.out 3; clear hb) | (go_at_call 55; refine (tree_width.calls k _ _ _ _ _ _ _ _ (Kd.C_below HR.out HB1.out) hc0_3 HW.out).mono ?_; rintro e w2 ⟨rfl, hb⟩; have HB2 := Aside0.mk (token_good.step HB1.out hb); have HG2 := Aside0.mk (blk_below HG1.out hb); clear hb))
   (try rw [Exit.noGoto_ret])
   go_ret2
   exact ⟨_, rfl, Kd.R_nil _ _ _ _ _, HB2.out⟩
  ·rw [if_neg c1] at h; have c1b : decide (a1 < 0) = false := decide_eq_false c1; by_cases c2 : a1 > wd
   ·rw [if_pos c2] at h; simp only [Option.some.injEq, Prod.mk.injEq] at h; obtain ⟨rfl, rfl⟩ := h; have c2b : decide (wd < a1) = true := decide_eq_true c2; clear c1 c2; go_enter Try.func16, Try.ntmps16; go_wp2
    go_step3
    go_wp2_with (first | (go_at_call 30; refine (tree_IsFormed.calls k _ _ _ _ _ _ _ _ (Kd.C_below HR.out HB.out) hc0_3 HF.out).mono ?_; rintro e w1 ⟨rfl, hb⟩; have HB1 := Aside0.mk (token_good.step HB.out hb); have HG1 := Aside0.mk (blk_below HG.out hb); have z0 : w1.cell? ⟨w.heap.size, 0, none⟩ = some (.int .i64 a0_0) := Lib.cell_of_heap HG1.out 0; have z1 : w1.cell? ⟨w.heap.size, 1, none⟩ = some (.int .i64 a0_1) := Lib.cell_of_heap HG1.out 1; have z2 : w1.cell? ⟨w.heap.size, 2, none⟩ = some (.string a0_2) := Lib.cell_of_heap HG1.out 2; have z3 : w1.cell? ⟨w.heap.size, 3, none⟩ = some (.slice A0_3 l0_3.length c0_3) := Lib.cell_of_heap HG1.out 3; clear hb) | (go_at_call 55; refine (tree_width.calls k _ _ _ _ _ _ _ _ (Kd.C_below HR.out HB1.out) hc0_3 HW.out).mono ?_; rintro e w2 ⟨rfl, hb⟩; have HB2 := Aside0.mk (token_good.step HB1.out hb); have HG2 := Aside0.mk (blk_below HG1.out hb); clear hb))
    (try rw [Exit.noGoto_ret])
    go_ret2
    exact ⟨_, rfl, Kd.R_nil _ _ _ _ _, HB2.out⟩
   ·rw [if_neg c2] at h; have c2b : decide (wd < a1) = false := decide_eq_false c2; by_cases c3 : wd = 0
    ·rw [if_pos c3] at h; simp only [Option.some.injEq, Prod.mk.injEq] at h; obtain ⟨rfl, rfl⟩ := h; have c3b : (wd == 0) = true := beq_iff_eq.mpr c3; clear c1 c2 c3; go_enter Try.func16, Try.ntmps16; go_wp2
     go_step3
     go_wp2_with (first | (go_at_call 30; refine (tree_IsFormed.calls k _ _ _ _ _ _ _ _ (Kd.C_below HR.out HB.out) hc0_3 HF.out).mono ?_; rintro e w1 ⟨rfl, hb⟩; have HB1 := Aside0.mk (token_good.step HB.out hb); have HG1 := Aside0.mk (blk_below HG.out hb); have z0 : w1.cell? ⟨w.heap.size, 0, none⟩ = some (.int .i64 a0_0) := Lib.cell_of_heap HG1.out 0; have z1 : w1.cell? ⟨w.heap.size, 1, none⟩ = some (.int .i64 a0_1) := Lib.cell_of_heap HG1.out 1; have z2 : w1.cell? ⟨w.heap.size, 2, none⟩ = some (.string a0_2) := Lib.cell_of_heap HG1.out 2; have z3 : w1.cell? ⟨w.heap.size, 3, none⟩ = some (.slice A0_3 l0_3.length c0_3) := Lib.cell_of_heap HG1.out 3; clear hb) | (go_at_call 55; refine (tree_width.calls k _ _ _ _ _ _ _ _ (Kd.C_below HR.out HB1.out) hc0_3 HW.out).mono ?_; rintro e w2 ⟨rfl, hb⟩; have HB2 := Aside0.mk (token_good.step HB1.out hb); have HG2 := Aside0.mk (blk_below HG1.out hb); clear hb))
     (try rw [Exit.noGoto_ret])
     go_ret2
     exact ⟨_, rfl, Kd.R_nil _ _ _ _ _, HB2.out⟩
    ·rw [if_neg c3] at h; have c3b : (wd == 0) = false := beq_eq_false_iff_ne.mpr c3; obtain ⟨l, hl, h⟩ := Option.bind_eq_some_iff.mp h; simp only [Option.some.injEq, Prod.mk.injEq] at h; obtain ⟨rfl, rfl⟩ := h
     obtain ⟨o1, ho1⟩ : ∃ o1 : Int, mn a1 (wrap64 (wd - 1)) = o1 := ⟨_, rfl⟩
     rw [ho1] at hl
     have ho2 : (if wrap64 (wd - 1) < a1 then wrap64 (wd - 1) else a1) = o1 := (by rw [← ho1]; unfold mn; rfl)
     have HL := Aside0.mk hl; clear c1 c2 c3 hl ho1; go_enter Try.func16, Try.ntmps16; go_wp2
     go_step3
     go_wp2_with (first | (go_at_call 30; refine (tree_IsFormed.calls k _ _ _ _ _ _ _ _ (Kd.C_below HR.out HB.out) hc0_3 HF.out).mono ?_; rintro e w1 ⟨rfl, hb⟩; have HB1 := Aside0.mk (token_good.step HB.out hb); have HG1 := Aside0.mk (blk_below HG.out hb); have z0 : w1.cell? ⟨w.heap.size, 0, none⟩ = some (.int .i64 a0_0) := Lib.cell_of_heap HG1.out 0; have z1 : w1.cell? ⟨w.heap.size, 1, none⟩ = some (.int .i64 a0_1) := Lib.cell_of_heap HG1.out 1; have z2 : w1.cell? ⟨w.heap.size, 2, none⟩ = some (.string a0_2) := Lib.cell_of_heap HG1.out 2; have z3 : w1.cell? ⟨w.heap.size, 3, none⟩ = some (.slice A0_3 l0_3.length c0_3) := Lib.cell_of_heap HG1.out 3; clear hb) | (go_at_call 55; refine (tree_width.calls k _ _ _ _ _ _ _ _ (Kd.C_below HR.out HB1.out) hc0_3 HW.out).mono ?_; rintro e w2 ⟨rfl, hb⟩; have HB2 := Aside0.mk (token_good.step HB1.out hb); have HG2 := Aside0.mk (blk_below HG1.out hb); clear hb))
     go_step3
     go_wp2
     go_loopg [1, 7] k (fun kq v1 v7 w' => ∃ (n : S26) (A : Option Addr) (cc : Nat) (off : Int) (acc : List Int), v1 = .int .i64 off ∧ Aside0 (tree_Find.go k kq n off acc = some l) ∧ Aside0 (Kd.C k26 w A n.f2.length n.f2 ∧ n.f2.length ≤ cc) ∧ Aside0 (w'.heap[w.heap.size]? = some (.cells #[.int .i64 n.f0, .int .i64 n.f1.f0, .string n.f1.f1, .slice A n.f2.length cc] 26 (0, 0))) ∧ Aside0 (Kd.R (Kd.int .i64) 3 w' w.heap.size (fun _ => True) v7 acc) ∧ Aside0 (Below w.heap.size w w'))
     case atStart => exact ⟨⟨a0_0, ⟨a0_1, a0_2⟩, l0_3⟩, A0_3, c0_3, o1, [], (by first | rfl | rw [ho2]), HL, ⟨HR.out, hc0_3⟩, HG2, ⟨Kd.R_nil _ _ _ _ _⟩, HB2⟩
     case round =>
      clear HL HG HG1 HG2 HB HB1 HB2 HF HW z0 z1 z2 z3 ho2 c1b c2b c3b; obtain ⟨n, A, cc, off, acc, rfl, HA, HC, HG, HO, HB⟩ := hrel
      cases gk with
      | zero => exact absurd HA.out (by simp [tree_Find.go])
      | succ kq =>
      have H := HA.out; rw [tree_Find.go] at H; clear HA; have z0 : wr.cell? ⟨w.heap.size, 0, none⟩ = some (.int .i64 n.f0) := Lib.cell_of_heap HG.out 0; have z3 : wr.cell? ⟨w.heap.size, 3, none⟩ = some (.slice A n.f2.length cc) := Lib.cell_of_heap HG.out 3; have hmax : n.f2.length ≤ 9223372036854775807 := HC.out.1.2.1; by_cases c4 : n.f0 = 1
      ·rw [if_pos c4] at H; injection H with H; subst H; have c4b : (n.f0 != 1) = false := bne_eq_false_iff_eq.mpr c4; clear c4; go_wp2
       (try rw [Exit.noGoto_ret])
       go_ret2
       exact ⟨_, rfl, HO.out, HB.out⟩
      ·rw [if_neg c4] at H; have c4b : (n.f0 != 1) = true := bne_iff_ne.mpr c4; clear c4; obtain ⟨⟨j, x, o2⟩, hs, Hn⟩ := Option.bind_eq_some_iff.mp H; clear H; obtain ⟨hlen, Hn⟩ := Ut.ite_some Hn; have HS := Aside0.mk hs; have HN := Aside0.mk Hn; clear hs Hn; go_wp2
       go_loopg [1, 7, 35] n.f2.length (fun kq2 v1 v7 v35 w' => ∃ (i : Nat) (o : Int), v1 = .int .i64 o ∧ v35 = .int .i64 (i : Int) ∧ Aside0 (i + kq2 = n.f2.length) ∧ Aside0 (tree_Find.scan k (n.f2.drop i) o i = some (j, x, o2)) ∧ Aside0 (w'.heap[w.heap.size]? = some (.cells #[.int .i64 n.f0, .int .i64 n.f1.f0, .string n.f1.f1, .slice A n.f2.length cc] 26 (0, 0))) ∧ Aside0 (Kd.R (Kd.int .i64) 3 w' w.heap.size (fun _ => True) v7 acc) ∧ Aside0 (Below w.heap.size w w'))
       case atStart => exact ⟨0, off, rfl, rfl, ⟨by omega⟩, HS, HG, HO, HB⟩
       case round =>
        clear HS HG HO HB z0 z3; obtain ⟨i, o, rfl, rfl, HK, HS, HG, HO, HB⟩ := hrel; by_cases hlt : i < n.f2.length
        ·have hd1 : decide ((i : Int) < (n.f2.length : Int)) = true := decide_eq_true (by omega); have S := HS.out; rw [List.drop_eq_getElem_cons hlt] at S; simp only [tree_Find.scan] at S; obtain ⟨wy, hwy, Sn⟩ := Option.bind_eq_some_iff.mp S; clear S HS
         have hrd : rd_T26 n.f2 (i : Int) = n.f2[i] := (by simp [rd_T26, hlt])
         obtain ⟨ad, A3, c3, e, hx0, hx1, hx2, hx3, hl3, hC3⟩ := at_T26 HC.out.1 (i : Int) (by omega) (by omega); rw [hrd] at hx0 hx1 hx2 hx3 hl3 hC3; rw [Int.toNat_natCast] at hx0 hx1 hx2 hx3; subst e; replace hx0 := zh HB hx0; replace hx1 := zh HB hx1; replace hx2 := zh HB hx2; replace hx3 := zh HB hx3; clear hrd; generalize n.f2[i] = y at *; have HW := Aside0.mk hwy; have HC3 := Aside0.mk (And.intro hC3 hl3); have HB1 := Aside0.mk (below_alloc HB.out (.cells #[.int .i64 y.f0, .int .i64 y.f1.f0, .string y.f1.f1, .slice A3 y.f2.length c3] 26)); have HG1 := Aside0.mk (blk_alloc HG.out (.cells #[.int .i64 y.f0, .int .i64 y.f1.f0, .string y.f1.f1, .slice A3 y.f2.length c3] 26)); have HY1 := Aside0.mk (blk_new wr (.cells #[.int .i64 y.f0, .int .i64 y.f1.f0, .string y.f1.f1, .slice A3 y.f2.length c3] 26)); have HO1 := Aside0.mk (Kd.R_alloc HO.out (.cells #[.int .i64 y.f0, .int .i64 y.f1.f0, .string y.f1.f1, .slice A3 y.f2.length c3] 26)); clear hwy hC3 hl3; by_cases c5 : o < wy
         ·rw [if_pos c5] at Sn; simp only [Option.some.injEq, Prod.mk.injEq] at Sn; obtain ⟨rfl, rfl, rfl⟩ := Sn; have c5b : decide (o < wy) = true := decide_eq_true c5; clear c5
          go_wp2_with (first | (go_at_call 55; refine (tree_width.calls k _ _ _ _ _ _ _ _ (Kd.C_below HC3.out.1 HB1.out) HC3.out.2 HW.out).mono ?_; rintro e w3 ⟨rfl, hb⟩; have HB3 := Aside0.mk (token_good.step HB1.out hb); have HG3 := Aside0.mk (blk_below HG1.out hb); have HY3 := Aside0.mk (blk_below HY1.out hb); have HO3 := Aside0.mk (Kd.R_below HO1.out hb); clear hb) | (at_builtin; refine Kd.R_append (Kd.int .i64) (w0 := w) w.heap.size rfl (.tmp 45) (.tmp 47) 30 3 (.int .i64 0) 8 rfl Try.underlying30 tree_Find.infoInt rfl (by decide) (by omega) u7 acc (i : Int) [.int .i64 (i : Int)] (fun _ => True) (fun _ => False) rfl rfl rfl (fun _ hk => hk.elim) (fun _ _ => trivial) HO3.out HB3.out (below_size HB3.out) (by omega) ?_; intro v8 w4 ho hb hg hat; have HB4 := Aside0.mk hb; have HO4 := Aside0.mk ho; have HG4 := Aside0.mk (blk_grown HG3.out hg (Kd.R_ne HO3.out HG3.out (by decide))); have HY4 := Aside0.mk (blk_grown HY3.out hg (Kd.R_ne HO3.out HY3.out (by decide))); clear ho hb hg hat; have y0 : w4.cell? ⟨wr.heap.size, 0, none⟩ = some (.int .i64 y.f0) := Lib.cell_of_heap HY4.out 0; have y1 : w4.cell? ⟨wr.heap.size, 1, none⟩ = some (.int .i64 y.f1.f0) := Lib.cell_of_heap HY4.out 1; have y2 : w4.cell? ⟨wr.heap.size, 2, none⟩ = some (.string y.f1.f1) := Lib.cell_of_heap HY4.out 2; have y3 : w4.cell? ⟨wr.heap.size, 3, none⟩ = some (.slice A3 y.f2.length c3) := Lib.cell_of_heap HY4.out 3; have z0 : w4.cell? ⟨w.heap.size, 0, none⟩ = some (.int .i64 n.f0) := Lib.cell_of_heap HG4.out 0; have z1 : w4.cell? ⟨w.heap.size, 1, none⟩ = some (.int .i64 n.f1.f0) := Lib.cell_of_heap HG4.out 1; have z2 : w4.cell? ⟨w.heap.size, 2, none⟩ = some (.string n.f1.f1) := Lib.cell_of_heap HG4.out 2; have z3 : w4.cell? ⟨w.heap.size, 3, none⟩ = some (.slice (some ad) n.f2.length cc) := Lib.cell_of_heap HG4.out 3; have d0 := Lib.frozen_of_heap HG4.out 0; have d1 := Lib.frozen_of_heap HG4.out 1; have d2 := Lib.frozen_of_heap HG4.out 2; have d3 := Lib.frozen_of_heap HG4.out 3))
          go_roundg kq
          case measure => omega
          case rel => exact ⟨y, A3, c3, o, acc ++ [(i : Int)], rfl, HN, HC3, ⟨by refine blk_put (cs := #[.int .i64 y.f0, .int .i64 y.f1.f0, .string y.f1.f1, .slice (some ad) n.f2.length cc]) ?_ 3 _ rfl; refine blk_put (cs := #[.int .i64 y.f0, .int .i64 y.f1.f0, .string n.f1.f1, .slice (some ad) n.f2.length cc]) ?_ 2 _ rfl; refine blk_put (cs := #[.int .i64 y.f0, .int .i64 n.f1.f0, .string n.f1.f1, .slice (some ad) n.f2.length cc]) ?_ 1 _ rfl; refine blk_put (cs := #[.int .i64 n.f0, .int .i64 n.f1.f0, .string n.f1.f1, .slice (some ad) n.f2.length cc]) ?_ 0 _ rfl; exact HG4.out⟩, ⟨by refine Kd.R_set (Kd.R_set (Kd.R_set (Kd.R_set HO4.out HG4.out ?ht 0 _) (blk_put HG4.out 0 _ rfl) ?ht 1 _) (blk_put (blk_put HG4.out 0 _ rfl) 1 _ rfl) ?ht 2 _) (blk_put (blk_put (blk_put HG4.out 0 _ rfl) 1 _ rfl) 2 _ rfl) ?ht 3 _; intro q hq e; subst e; revert hq; decide⟩, ⟨by repeat (first | exact HB4.out | refine below_set ?_ (Nat.le_refl _))⟩⟩
         ·rw [if_neg c5] at Sn; have HS2 := Aside0.mk Sn; have c5b : decide (o < wy) = false := decide_eq_false c5; clear c5 Sn
          cases gk with
          | zero => exact absurd hlt (by have := HK.out; omega)
          | succ kq2 =>
          go_wp2_with (go_at_call 55; refine (tree_width.calls k _ _ _ _ _ _ _ _ (Kd.C_below HC3.out.1 HB1.out) HC3.out.2 HW.out).mono ?_; rintro e w3 ⟨rfl, hb⟩; have HB3 := Aside0.mk (token_good.step HB1.out hb); have HG3 := Aside0.mk (blk_below HG1.out hb); have HO3 := Aside0.mk (Kd.R_below HO1.out hb); clear hb)
          go_roundg kq2
          case measure => omega
          case rel => exact ⟨i + 1, _, rfl, by go_num, ⟨by have := HK.out; omega⟩, HS2, HG3, HO3, HB3⟩
        ·have S := HS.out; rw [List.drop_of_length_le (by have := HK.out; omega)] at S
         simp [tree_Find.scan] at S

end Go.Proofs.Ytnafnieocpkkhaa.P

namespace Go.Proofs.Ytnafnieocpkkhaa.P
open Go.RowKit Go.Proofs.YtnafnieocpkkhaaW.PrintWords Go.Proofs.YtnafnieocpkkhaaW.PrintLast Go.Proofs.YtnafnieocpkkhaaW.PrintMore
attribute [local go_sem] max2_int min2_int max_two min_two max_three min_three max_four min_four
set_option linter.unusedVariables false
set_option linter.unusedSimpArgs false

mutual
def tree_Cover.l0 : Nat → List Int → Int → Int → Int → ByteArray → List (S26) → Int → Int → Option (List Int × Int)
 | 0, _, _, _, _, _, _, _, _ => none
 | k + 1, x6, x7, x180000, x180001, x180002, x180003, x181000, x181001 => tree_Cover.l1 k x6 (-1) 0 x7 x180003 (x180003.length : Int) 0 x180000 x180001 x180002 x180003 x181000 x181001
def tree_Cover.l1 : Nat → List Int → Int → Int → Int → List (S26) → Int → Int → Int → Int → ByteArray → List (S26) → Int → Int → Option (List Int × Int)
 | 0, _, _, _, _, _, _, _, _, _, _, _, _, _ => none
 | k + 1, x6, x8, x9, x10, x36, x37, x38, x180000, x180001, x180002, x180003, x181000, x181001 => if x38 < x37 then (if 0 ≤ x38 then (if x38 < (x36.length : Int) then ((tree_width.f k ((rd_T26 x36 x38).f0) ((rd_T26 x36 x38).f1.f0) ((rd_T26 x36 x38).f1.f1) ((rd_T26 x36 x38).f2)).bind fun t185 => (if x10 ≤ x181000 then (if x181001 ≤ (wrap64 (x10 + t185)) then (tree_Cover.l1 k x6 x38 x10 (wrap64 (x10 + t185)) x36 x37 (wrap64 (x38 + 1)) x180000 x180001 x180002 x180003 x181000 x181001) else (tree_Cover.l1 k x6 x8 x9 (wrap64 (x10 + t185)) x36 x37 (wrap64 (x38 + 1)) x180000 x180001 x180002 x180003 x181000 x181001)) else (tree_Cover.l1 k x6 x8 x9 (wrap64 (x10 + t185)) x36 x37 (wrap64 (x38 + 1)) x180000 x180001 x180002 x180003 x181000 x181001))) else (none)) else (none)) else (if x8 < 0 then (some (x6, 0)) else (if x6.length < 17592186044416 then (if 0 ≤ x8 then (if x8 < (x180003.length : Int) then (tree_Cover.l0 k (x6 ++ [x8]) x9 ((rd_T26 x180003 x8).f0) ((rd_T26 x180003 x8).f1.f0) ((rd_T26 x180003 x8).f1.f1) ((rd_T26 x180003 x8).f2) x181000 x181001) else (none)) else (none)) else (none)))
end
def tree_Cover.f (k : Nat) (a0_0 : Int) (a0_1 : Int) (a0_2 : ByteArray) (l0_3 : List (S26)) (a1_0 : Int) (a1_1 : Int) : Option (List Int × Int) := (tree_IsFormed.f k a0_0 a0_1 a0_2 l0_3).bind fun t181 => (if t181 = true then (if a1_0 < 0 then (none) else (if a1_0 > a1_1 then (none) else ((tree_width.f k a0_0 a0_1 a0_2 l0_3).bind fun t182 => (if a1_1 > t182 then (none) else (tree_Cover.l0 k ([] : List Int) 0 a0_0 a0_1 a0_2 l0_3 a1_0 a1_1))))) else (none))
theorem tree_Cover.info : (Try.prog.info? 3).map (fun i => (i.zero, i.size, i.bytes)) = some (some (.int .i64 0), 1, 8) := by kernel_rfl
set_option maxHeartbeats 8000000 in
set_option maxRecDepth 100000 in
theorem tree_Cover.calls (k : Nat) (a0_0 : Int) (a0_1 : Int) (a0_2 : ByteArray) (A0_3 : Option Addr) (c0_3 : Nat) (l0_3 : List (S26)) (a1_0 : Int) (a1_1 : Int) (r1 : List Int) (r2 : Int) (w : World) (hr0_3 : Kd.C k26 w A0_3 l0_3.length l0_3) (hc0_3 : l0_3.length ≤ c0_3) (h : tree_Cover.f k a0_0 a0_1 a0_2 l0_3 a1_0 a1_1 = some (r1, r2)) :
  Calls Try.prog 17 #[.agg #[.int .i64 a0_0, .int .i64 a0_1, .string a0_2, .slice A0_3 l0_3.length c0_3], .agg #[.int .i64 a1_0, .int .i64 a1_1]] w fun e w' => ∃ v0_ : Value, e = .returned (.tuple #[v0_, .int .i64 r2]) ∧ Kd.R (Kd.int .i64) 3 w' w.heap.size (fun _ => True) v0_ r1 ∧ Below w.heap.size w w' := by
 have hu := Try.underlying26; have hu2 := Try.underlying28; unfold tree_Cover.f at h; obtain ⟨b, hb, h⟩ := Option.bind_eq_some_iff.mp h
 cases b with
 | false => exact absurd h (by simp)
 | true =>
 rw [if_pos rfl] at h; by_cases c1 : a1_0 < 0
 ·rw [if_pos c1] at h; cases h
 rw [if_neg c1] at h; by_cases c2 : a1_0 > a1_1
 ·rw [if_pos c2] at h; cases h
 rw [if_neg c2] at h; obtain ⟨wd, hwd, h⟩ := Option.bind_eq_some_iff.mp h; by_cases c3 : a1_1 > wd
 ·rw [if_pos c3] at h; cases h
 rw [if_neg c3] at h; have d1 : decide (a1_0 < 0) = false := decide_eq_false c1; have d2 : decide (a1_1 < a1_0) = false := decide_eq_false c2; have d3 : decide (wd < a1_1) = false := decide_eq_false c3; have hw2 : Below w.heap.size w ((w.alloc (.cells #[.int .i64 a0_0, .int .i64 a0_1, .string a0_2, .slice A0_3 l0_3.length c0_3] 26)).alloc (.cells #[.int .i64 a1_0, .int .i64 a1_1] 28)) := below_alloc (below_alloc (Below.refl _ _) _) _; have Cn := Aside0.mk (Kd.C_below hr0_3 hw2); have C0 := Aside0.mk hr0_3; have HB := Aside0.mk hw2; have H2 := Aside0.mk (show ((w.alloc (.cells #[.int .i64 a0_0, .int .i64 a0_1, .string a0_2, .slice A0_3 l0_3.length c0_3] 26)).alloc (.cells #[.int .i64 a1_0, .int .i64 a1_1] 28)).heap[w.heap.size]? = some (.cells #[.int .i64 a0_0, .int .i64 a0_1, .string a0_2, .slice A0_3 l0_3.length c0_3] 26 (0, 0)) from blk_alloc (blk_new w _) _); have H3 := Aside0.mk (show ((w.alloc (.cells #[.int .i64 a0_0, .int .i64 a0_1, .string a0_2, .slice A0_3 l0_3.length c0_3] 26)).alloc (.cells #[.int .i64 a1_0, .int .i64 a1_1] 28)).heap[w.heap.size + 1]? = some (.cells #[.int .i64 a1_0, .int .i64 a1_1] 28 (0, 0)) by simpa using blk_new (w.alloc (.cells #[.int .i64 a0_0, .int .i64 a0_1, .string a0_2, .slice A0_3 l0_3.length c0_3] 26)) (.cells #[.int .i64 a1_0, .int .i64 a1_1] 28)); have E1 := Aside0.mk hb; have E2 := Aside0.mk hwd; have HH := Aside0.mk h; clear hr0_3 hw2 h hb hwd c1 c2 c3; go_enter Try.func17, Try.ntmps17; go_wp2_with fail; refine (tree_IsFormed.calls k a0_0 a0_1 a0_2 A0_3 c0_3 l0_3 true _ Cn.out hc0_3 E1.out).mono ?_; rintro e w3 ⟨rfl, hb⟩; replace Cn := Aside0.mk (Kd.C_below Cn.out hb); replace H2 := Aside0.mk (blk_below H2.out hb); replace H3 := Aside0.mk (blk_below H3.out hb); replace HB := Aside0.mk (Cl.bstep HB.out hb); clear hb; obtain ⟨yH2_0, yH2_1, yH2_2, yH2_3⟩ := Cl.four H2.out; obtain ⟨yH3_0, yH3_1⟩ := Cl.two H3.out; go_wp2_with fail
 have hS : (fun w' : World => w'.cell? ⟨w.heap.size, 0, none⟩ = some (.int .i64 a0_0) ∧ w'.cell? ⟨w.heap.size, 1, none⟩ = some (.int .i64 a0_1) ∧ w'.cell? ⟨w.heap.size, 2, none⟩ = some (.string a0_2) ∧ w'.cell? ⟨w.heap.size, 3, none⟩ = some (.slice A0_3 l0_3.length c0_3) ∧ w'.cell? ⟨w.heap.size + 1, 0, none⟩ = some (.int .i64 a1_0) ∧ w'.cell? ⟨w.heap.size + 1, 1, none⟩ = some (.int .i64 a1_1)) w3.drew := ⟨yH2_0, yH2_1, yH2_2, yH2_3, yH3_0, yH3_1⟩
 have hd := below_drew1 (Below.refl w3.heap.size w3); replace Cn := Aside0.mk (Kd.C_below Cn.out hd); replace H2 := Aside0.mk (blk_below H2.out hd); replace H3 := Aside0.mk (blk_below H3.out hd); replace HB := Aside0.mk (Cl.bstep HB.out hd); clear hd; refine start_ (n := 17) (S := fun w' => w'.cell? ⟨w.heap.size, 0, none⟩ = some (.int .i64 a0_0) ∧ w'.cell? ⟨w.heap.size, 1, none⟩ = some (.int .i64 a0_1) ∧ w'.cell? ⟨w.heap.size, 2, none⟩ = some (.string a0_2) ∧ w'.cell? ⟨w.heap.size, 3, none⟩ = some (.slice A0_3 l0_3.length c0_3) ∧ w'.cell? ⟨w.heap.size + 1, 0, none⟩ = some (.int .i64 a1_0) ∧ w'.cell? ⟨w.heap.size + 1, 1, none⟩ = some (.int .i64 a1_1)) (ds := []) #[false, false, false, false, false, false, false, false, false, false, false, false, false, false, false, false, false] (by kernel_rfl) rfl rfl hS (fun hHeld => ?_); refine take_ (i := 0) (N := some 17) (v := ?_) (a' := ?_) #[true, false, false, false, false, false, false, false, false, false, false, false, false, false, false, false, false] rfl rfl (by kernel_rfl) (fun _ _ _ h => h) (Or.inl ⟨by rfl, ?_⟩) hHeld ?_ ?_; rotate_left
 ·rintro w' ⟨s0, s1, s2, s3, s4, s5⟩; go_simp; with_reducible rfl
 rotate_left
 ·simp only [Act.put, List.setIfInBounds_toArray, List.set_cons_zero, List.set_cons_succ, i64_w, i32_w]; rfl
 refine take_ (i := 1) (N := some 18) (v := ?_) (a' := ?_) #[true, true, false, false, false, false, false, false, false, false, false, false, false, false, false, false, false] rfl rfl (by kernel_rfl) (fun _ _ _ h => h) (Or.inl ⟨by rfl, ?_⟩) hHeld ?_ ?_; rotate_left
 ·rintro w' ⟨s0, s1, s2, s3, s4, s5⟩; go_simp; with_reducible rfl
 rotate_left
 ·simp only [Act.put, List.setIfInBounds_toArray, List.set_cons_zero, List.set_cons_succ, i64_w, i32_w]; rfl
 refine take_ (i := 2) (N := some 19) (v := ?_) (a' := ?_) #[true, true, true, false, false, false, false, false, false, false, false, false, false, false, false, false, false] rfl rfl (by kernel_rfl) (fun _ _ _ h => h) (Or.inl ⟨by rfl, ?_⟩) hHeld ?_ ?_; rotate_left
 ·rintro w' ⟨s0, s1, s2, s3, s4, s5⟩; go_simp; with_reducible rfl
 rotate_left
 ·simp only [Act.put, List.setIfInBounds_toArray, List.set_cons_zero, List.set_cons_succ, i64_w, i32_w]; rfl
 refine take_ (i := 3) (N := some 20) (v := ?_) (a' := ?_) #[true, true, true, true, false, false, false, false, false, false, false, false, false, false, false, false, false] rfl rfl (by kernel_rfl) (fun _ _ _ h => h) (Or.inl ⟨by rfl, ?_⟩) hHeld ?_ ?_; rotate_left
 ·rintro w' ⟨s0, s1, s2, s3, s4, s5⟩; go_simp; with_reducible rfl
 rotate_left
 ·simp only [Act.put, List.setIfInBounds_toArray, List.set_cons_zero, List.set_cons_succ, i64_w, i32_w]; rfl
 refine take_ (i := 4) (N := some 21) (v := ?_) (a' := ?_) #[true, true, true, true, true, false, false, false, false, false, false, false, false, false, false, false, false] rfl rfl (by kernel_rfl) (fun _ _ _ h => h) (Or.inl ⟨by rfl, ?_⟩) hHeld ?_ ?_; rotate_left
 ·rintro w' ⟨s0, s1, s2, s3, s4, s5⟩; go_simp; with_reducible rfl
 rotate_left
 ·simp only [Act.put, List.setIfInBounds_toArray, List.set_cons_zero, List.set_cons_succ, i64_w, i32_w]; rfl
 refine take_ (i := 5) (N := some 22) (v := ?_) (a' := ?_) #[true, true, true, true, true, true, false, false, false, false, false, false, false, false, false, false, false] rfl rfl (by kernel_rfl) (fun _ _ _ h => h) (Or.inl ⟨by rfl, ?_⟩) hHeld ?_ ?_; rotate_left
 ·rintro w' ⟨s0, s1, s2, s3, s4, s5⟩; go_simp; with_reducible rfl
 rotate_left
 ·simp only [Act.put, List.setIfInBounds_toArray, List.set_cons_zero, List.set_cons_succ, i64_w, i32_w]; rfl
 refine take_ (i := 6) (N := some 23) (v := ?_) (a' := ?_) #[true, true, true, true, true, true, true, false, false, false, false, false, false, false, false, false, false] rfl rfl (by kernel_rfl) (fun _ _ _ h => h) (Or.inl ⟨by rfl, ?_⟩) hHeld ?_ ?_; rotate_left
 ·rintro w' ⟨s0, s1, s2, s3, s4, s5⟩; go_simp; with_reducible rfl
 rotate_left
 ·simp only [Act.put, List.setIfInBounds_toArray, List.set_cons_zero, List.set_cons_succ, i64_w, i32_w]; rfl
 refine take_ (i := 7) (N := some 24) (v := ?_) (a' := ?_) #[true, true, true, true, true, true, true, true, false, false, false, false, false, false, false, false, false] rfl rfl (by kernel_rfl) (fun _ _ _ h => h) (Or.inl ⟨by rfl, ?_⟩) hHeld ?_ ?_; rotate_left
 ·rintro w' ⟨s0, s1, s2, s3, s4, s5⟩; go_simp; with_reducible rfl
 rotate_left
 ·simp only [Act.put, List.setIfInBounds_toArray, List.set_cons_zero, List.set_cons_succ, i64_w, i32_w]; rfl
 refine take_ (i := 8) (N := some 25) (v := ?_) (a' := ?_) #[true, true, true, true, true, true, true, true, true, false, false, false, false, false, false, false, false] rfl rfl (by kernel_rfl) (fun _ _ _ h => h) (Or.inl ⟨by rfl, ?_⟩) hHeld ?_ ?_; rotate_left
 ·rintro w' ⟨s0, s1, s2, s3, s4, s5⟩; go_simp; with_reducible rfl
 rotate_left
 ·simp only [Act.put, List.setIfInBounds_toArray, List.set_cons_zero, List.set_cons_succ, i64_w, i32_w]; rfl
 refine take_ (i := 9) (N := some 26) (v := ?_) (a' := ?_) #[true, true, true, true, true, true, true, true, true, true, false, false, false, false, false, false, false] rfl rfl (by kernel_rfl) (fun _ _ _ h => h) (Or.inl ⟨by rfl, ?_⟩) hHeld ?_ ?_; rotate_left
 ·rintro w' ⟨s0, s1, s2, s3, s4, s5⟩; go_simp; with_reducible rfl
 rotate_left
 ·simp only [Act.put, List.setIfInBounds_toArray, List.set_cons_zero, List.set_cons_succ, i64_w, i32_w]; rfl
 refine take_ (i := 10) (N := some 27) (v := ?_) (a' := ?_) #[true, true, true, true, true, true, true, true, true, true, true, false, false, false, false, false, false] rfl rfl (by kernel_rfl) (fun _ _ _ h => h) (Or.inl ⟨by rfl, ?_⟩) hHeld ?_ ?_; rotate_left
 ·rintro w' ⟨s0, s1, s2, s3, s4, s5⟩; go_simp; with_reducible rfl
 rotate_left
 ·simp only [Act.put, List.setIfInBounds_toArray, List.set_cons_zero, List.set_cons_succ, i64_w, i32_w]; rfl
 refine take_ (i := 11) (N := some 28) (v := ?_) (a' := ?_) #[true, true, true, true, true, true, true, true, true, true, true, true, false, false, false, false, false] rfl rfl (by kernel_rfl) (fun _ _ _ h => h) (Or.inl ⟨by rfl, ?_⟩) hHeld ?_ ?_; rotate_left
 ·rintro w' ⟨s0, s1, s2, s3, s4, s5⟩; go_simp; with_reducible rfl
 rotate_left
 ·simp only [Act.put, List.setIfInBounds_toArray, List.set_cons_zero, List.set_cons_succ, i64_w, i32_w]; rfl
 refine take_ (i := 12) (N := some 29) (v := ?_) (a' := ?_) #[true, true, true, true, true, true, true, true, true, true, true, true, true, false, false, false, false] rfl rfl (by kernel_rfl) (fun _ _ _ h => h) (Or.inl ⟨by rfl, ?_⟩) hHeld ?_ ?_; rotate_left
 ·rintro w' ⟨s0, s1, s2, s3, s4, s5⟩; go_simp; with_reducible rfl
 rotate_left
 ·simp only [Act.put, List.setIfInBounds_toArray, List.set_cons_zero, List.set_cons_succ, i64_w, i32_w]; rfl
 refine take_ (i := 13) (N := some 30) (v := ?_) (a' := ?_) #[true, true, true, true, true, true, true, true, true, true, true, true, true, true, false, false, false] rfl rfl (by kernel_rfl) (fun _ _ _ h => h) (Or.inl ⟨by rfl, ?_⟩) hHeld ?_ ?_; rotate_left
 ·rintro w' ⟨s0, s1, s2, s3, s4, s5⟩; go_simp; with_reducible rfl
 rotate_left
 ·simp only [Act.put, List.setIfInBounds_toArray, List.set_cons_zero, List.set_cons_succ, i64_w, i32_w]; rfl
 refine one_ (i := 14) (N := some 31) #[true, true, true, true, true, true, true, true, true, true, true, true, true, true, true, false, false] rfl rfl (by kernel_rfl) (by decide) (fun K hK => ?_); go_simp; go_at_call 55; refine (tree_width.calls k a0_0 a0_1 a0_2 A0_3 c0_3 l0_3 wd _ Cn.out hc0_3 E2.out).mono ?_; rintro e w4 ⟨rfl, hb⟩
 have hk4 : (fun w' : World => w'.cell? ⟨w.heap.size, 0, none⟩ = some (.int .i64 a0_0) ∧ w'.cell? ⟨w.heap.size, 1, none⟩ = some (.int .i64 a0_1) ∧ w'.cell? ⟨w.heap.size, 2, none⟩ = some (.string a0_2) ∧ w'.cell? ⟨w.heap.size, 3, none⟩ = some (.slice A0_3 l0_3.length c0_3) ∧ w'.cell? ⟨w.heap.size + 1, 0, none⟩ = some (.int .i64 a1_0) ∧ w'.cell? ⟨w.heap.size + 1, 1, none⟩ = some (.int .i64 a1_1)) w4 := ⟨pw_cell_below hb hHeld.1, pw_cell_below hb hHeld.2.1, pw_cell_below hb hHeld.2.2.1, pw_cell_below hb hHeld.2.2.2.1, pw_cell_below hb hHeld.2.2.2.2.1, pw_cell_below hb hHeld.2.2.2.2.2⟩
 replace Cn := Aside0.mk (Kd.C_below Cn.out hb); replace H2 := Aside0.mk (blk_below H2.out hb); replace H3 := Aside0.mk (blk_below H3.out hb); replace HB := Aside0.mk (Cl.bstep HB.out hb); clear hb; refine hK.out _ _ hk4 (fun hHeld => ?_); clear hK K; refine take_ (i := 15) (N := some 32) (v := ?_) (a' := ?_) #[true, true, true, true, true, true, true, true, true, true, true, true, true, true, true, true, false] rfl rfl (by kernel_rfl) (fun _ _ _ h => h) (Or.inl ⟨by rfl, ?_⟩) hHeld ?_ ?_; rotate_left
 ·rintro w' ⟨s0, s1, s2, s3, s4, s5⟩; go_simp; with_reducible rfl
 rotate_left
 ·simp only [Act.put, List.setIfInBounds_toArray, List.set_cons_zero, List.set_cons_succ, i64_w, i32_w]; rfl
 refine take_ (i := 16) (N := some 33) (v := ?_) (a' := ?_) #[true, true, true, true, true, true, true, true, true, true, true, true, true, true, true, true, true] rfl rfl (by kernel_rfl) (fun _ _ _ h => h) (Or.inl ⟨by rfl, ?_⟩) hHeld ?_ ?_; rotate_left
 ·rintro w' ⟨s0, s1, s2, s3, s4, s5⟩; go_simp; with_reducible rfl
 rotate_left
 ·simp only [Act.put, List.setIfInBounds_toArray, List.set_cons_zero, List.set_cons_succ, i64_w, i32_w]; rfl
 refine done_ (by kernel_rfl) ?_; clear yH2_0 yH2_1 yH2_2 yH2_3 yH3_0 yH3_1 hS hHeld hk4 E1 E2 d1 d2 d3; go_wp2_with fail
 go_loopg [6, 7] k (fun kq v6 v7 w' => ∃ (n : S26) (A : Option Addr) (cc : Nat) (acc : List Int) (fr : Int), v7 = .int .i64 fr ∧ Aside0 (tree_Cover.l0 kq acc fr n.f0 n.f1.f0 n.f1.f1 n.f2 a1_0 a1_1 = some (r1, r2)) ∧ Aside0 (Kd.C k26 w A n.f2.length n.f2 ∧ n.f2.length ≤ cc) ∧ Aside0 (w'.heap[w.heap.size]? = some (.cells #[.int .i64 n.f0, .int .i64 n.f1.f0, .string n.f1.f1, .slice A n.f2.length cc] 26 (0, 0))) ∧ Aside0 (w'.heap[w.heap.size + 1]? = some (.cells #[.int .i64 a1_0, .int .i64 a1_1] 28 (0, 0))) ∧ Aside0 (Kd.R (Kd.int .i64) 3 w' w.heap.size (fun _ => True) v6 acc) ∧ Aside0 (Below w.heap.size w w'))
 case atStart => exact ⟨⟨a0_0, ⟨a0_1, a0_2⟩, l0_3⟩, A0_3, c0_3, [], 0, rfl, HH, ⟨C0.out, hc0_3⟩, H2, H3, ⟨Kd.R_nil _ _ _ _ _⟩, HB⟩
 case round =>
  clear HH C0 Cn H2 H3 HB; obtain ⟨n, A, cc, acc, fr, rfl, HA, HC, HG, HS, HO, HB⟩ := hrel
  cases gk with
  | zero => exact absurd HA.out (by simp [tree_Cover.l0])
  | succ kq =>
  have H := HA.out; rw [tree_Cover.l0] at H; have HL := Aside0.mk H; clear HA H; obtain ⟨z0, z1, z2, z3⟩ := Cl.four HG.out; obtain ⟨s0, s1⟩ := Cl.two HS.out; have hmax : n.f2.length ≤ 9223372036854775807 := HC.out.1.2.1; go_wp2_with fail
  go_loopg [8, 9, 10, 38] kq (fun kq2 v8 v9 v10 v38 w' => ∃ (nx bg at_ : Int) (i : Nat), v8 = .int .i64 nx ∧ v9 = .int .i64 bg ∧ v10 = .int .i64 at_ ∧ v38 = .int .i64 (i : Int) ∧ Aside0 (kq2 ≤ kq) ∧ Aside0 (tree_Cover.l1 kq2 acc nx bg at_ n.f2 (n.f2.length : Int) (i : Int) n.f0 n.f1.f0 n.f1.f1 n.f2 a1_0 a1_1 = some (r1, r2)) ∧ Aside0 (w'.heap[w.heap.size]? = some (.cells #[.int .i64 n.f0, .int .i64 n.f1.f0, .string n.f1.f1, .slice A n.f2.length cc] 26 (0, 0))) ∧ Aside0 (w'.heap[w.heap.size + 1]? = some (.cells #[.int .i64 a1_0, .int .i64 a1_1] 28 (0, 0))) ∧ Aside0 (Kd.R (Kd.int .i64) 3 w' w.heap.size (fun _ => True) u6 acc) ∧ Aside0 (Below w.heap.size w w'))
  case atStart => exact ⟨-1, 0, fr, 0, rfl, rfl, rfl, rfl, ⟨Nat.le_refl _⟩, HL, HG, HS, HO, HB⟩
  case round =>
   clear HL HG HS HO HB z0 z1 z2 z3 s0 s1; obtain ⟨nx, bg, at_, i, rfl, rfl, rfl, rfl, HK, HL, HG, HS, HO, HB⟩ := hrel
   cases gk with
   | zero => exact absurd HL.out (by simp [tree_Cover.l1])
   | succ kq2 =>
   have H := HL.out; simp only [tree_Cover.l1] at H; clear HL; obtain ⟨s0, s1⟩ := Cl.two HS.out; by_cases hlt : (i : Int) < (n.f2.length : Int)
   ·rw [if_pos hlt] at H; rw [if_pos (by omega), if_pos hlt] at H; obtain ⟨t, ht, H⟩ := Option.bind_eq_some_iff.mp H; have hd1 : decide ((i : Int) < (n.f2.length : Int)) = true := decide_eq_true hlt
    have hin : i < n.f2.length := (by omega)
    have hrd : rd_T26 n.f2 (i : Int) = n.f2[i] := (by simp [rd_T26, hin])
    obtain ⟨ad, A3, c3, e, hx0, hx1, hx2, hx3, hl3, hC3⟩ := at_T26 HC.out.1 (i : Int) (by omega) hlt; rw [hrd] at hx0 hx1 hx2 hx3 hl3 hC3 ht; rw [Int.toNat_natCast] at hx0 hx1 hx2 hx3; subst e; replace hx0 := zh HB hx0; replace hx1 := zh HB hx1; replace hx2 := zh HB hx2; replace hx3 := zh HB hx3; clear hrd; generalize n.f2[i] = y at *; have E2 := Aside0.mk ht; have HC3 := Aside0.mk (And.intro hC3 hl3); have hal := below_alloc (Below.refl wr.heap.size wr) (.cells #[.int .i64 y.f0, .int .i64 y.f1.f0, .string y.f1.f1, .slice A3 y.f2.length c3] 26); have HB1 := Aside0.mk (Cl.bstep HB.out hal); have HG1 := Aside0.mk (blk_below HG.out hal); have HS1 := Aside0.mk (blk_below HS.out hal); have HO1 := Aside0.mk (Kd.R_below HO.out hal); have HY1 := Aside0.mk (blk_new wr (.cells #[.int .i64 y.f0, .int .i64 y.f1.f0, .string y.f1.f1, .slice A3 y.f2.length c3] 26)); clear ht hC3 hl3 hal HO HG HS
    obtain ⟨atN, hatN⟩ : ∃ a : Int, wrap64 (at_ + t) = a := ⟨_, rfl⟩
    rw [hatN] at H
    have ei : wrap64 ((i : Int) + 1) = ((i + 1 : Nat) : Int) := (by (unfold wrap64; omega))
    rw [ei] at H; clear ei; by_cases c1 : at_ ≤ a1_0
    ·rw [if_pos c1] at H; have d1 : decide (at_ ≤ a1_0) = true := decide_eq_true c1; by_cases c2 : a1_1 ≤ atN
     ·rw [if_pos c2] at H; have d2 : decide (a1_1 ≤ atN) = true := decide_eq_true c2; have HL2 := Aside0.mk H; clear H
      go_wp2_with (go_at_call 55; refine (tree_width.calls kq2 _ _ _ _ _ _ _ _ (Kd.C_below HC3.out.1 HB1.out) HC3.out.2 E2.out).mono ?_; rintro e w3 ⟨rfl, hb⟩; have HB3 := Aside0.mk (Cl.bstep HB1.out hb); have HG3 := Aside0.mk (blk_below HG1.out hb); have HS3 := Aside0.mk (blk_below HS1.out hb); have HO3 := Aside0.mk (Kd.R_below HO1.out hb); obtain ⟨q0, q1⟩ := Cl.two HS3.out; clear hb)
      go_roundg kq2
      case measure => omega
      case rel => exact ⟨i, at_, atN, i + 1, by go_num, by go_num, by go_num, by go_num, ⟨by have := HK.out; omega⟩, HL2, HG3, HS3, HO3, HB3⟩
     ·rw [if_neg c2] at H; have d2 : decide (a1_1 ≤ atN) = false := decide_eq_false c2; have HL2 := Aside0.mk H; clear H
      go_wp2_with (go_at_call 55; refine (tree_width.calls kq2 _ _ _ _ _ _ _ _ (Kd.C_below HC3.out.1 HB1.out) HC3.out.2 E2.out).mono ?_; rintro e w3 ⟨rfl, hb⟩; have HB3 := Aside0.mk (Cl.bstep HB1.out hb); have HG3 := Aside0.mk (blk_below HG1.out hb); have HS3 := Aside0.mk (blk_below HS1.out hb); have HO3 := Aside0.mk (Kd.R_below HO1.out hb); obtain ⟨q0, q1⟩ := Cl.two HS3.out; clear hb)
      go_roundg kq2
      case measure => omega
      case rel => exact ⟨nx, bg, atN, i + 1, by go_num, by go_num, by go_num, by go_num, ⟨by have := HK.out; omega⟩, HL2, HG3, HS3, HO3, HB3⟩
    ·rw [if_neg c1] at H; have d1 : decide (at_ ≤ a1_0) = false := decide_eq_false c1; have HL2 := Aside0.mk H; clear H
     go_wp2_with (go_at_call 55; refine (tree_width.calls kq2 _ _ _ _ _ _ _ _ (Kd.C_below HC3.out.1 HB1.out) HC3.out.2 E2.out).mono ?_; rintro e w3 ⟨rfl, hb⟩; have HB3 := Aside0.mk (Cl.bstep HB1.out hb); have HG3 := Aside0.mk (blk_below HG1.out hb); have HS3 := Aside0.mk (blk_below HS1.out hb); have HO3 := Aside0.mk (Kd.R_below HO1.out hb); obtain ⟨q0, q1⟩ := Cl.two HS3.out; clear hb)
     go_roundg kq2
     case measure => omega
     case rel => exact ⟨nx, bg, atN, i + 1, by go_num, by go_num, by go_num, by go_num, ⟨by have := HK.out; omega⟩, HL2, HG3, HS3, HO3, HB3⟩
   ·rw [if_neg hlt] at H; have hd1 : decide ((i : Int) < (n.f2.length : Int)) = false := decide_eq_false hlt; by_cases c4 : nx < 0
    ·rw [if_pos c4] at H; simp only [Option.some.injEq, Prod.mk.injEq] at H; obtain ⟨rfl, rfl⟩ := H; have d4 : decide (nx < 0) = true := decide_eq_true c4; go_wp2
     (try rw [Exit.noGoto_ret])
     go_ret2
     exact ⟨_, rfl, HO.out, HB.out⟩
    ·rw [if_neg c4] at H; obtain ⟨hlen, H⟩ := Ut.ite_some H; obtain ⟨hn0, H⟩ := Ut.ite_some H; obtain ⟨hn1, H⟩ := Ut.ite_some H; have HL2 := Aside0.mk H; have d4 : decide (nx < 0) = false := decide_eq_false c4; clear H; obtain ⟨j, rfl⟩ := Int.eq_ofNat_of_zero_le hn0
     have hin : j < n.f2.length := (by omega)
     have hrd : rd_T26 n.f2 (j : Int) = n.f2[j] := (by simp [rd_T26, hin])
     obtain ⟨ad, A3, c3, e, hx0, hx1, hx2, hx3, hl3, hC3⟩ := at_T26 HC.out.1 (j : Int) (by omega) hn1; rw [hrd] at hx0 hx1 hx2 hx3 hl3 hC3; rw [Int.toNat_natCast] at hx0 hx1 hx2 hx3; subst e; have h2 := HL2.out; rw [hrd] at h2; have HL3 := Aside0.mk h2; clear h2 HL2 hrd; generalize n.f2[j] = y at *; have HC3 := Aside0.mk (And.intro hC3 hl3); have HX := Aside0.mk (And.intro hx0 (And.intro hx1 (And.intro hx2 hx3))); clear hC3 hl3 hx0 hx1 hx2 hx3; obtain ⟨z0, z1, z2, z3⟩ := Cl.four HG.out
     go_wp2_with (first | (at_builtin; refine Kd.R_append (Kd.int .i64) (w0 := w) w.heap.size rfl (.tmp 66) (.tmp 68) 30 3 (.int .i64 0) 8 rfl Try.underlying30 tree_Cover.info rfl (by decide) (by omega) u6 acc (j : Int) [.int .i64 (j : Int)] (fun _ => True) (fun _ => False) rfl rfl rfl (fun _ hk => hk.elim) (fun _ _ => trivial) HO.out HB.out (below_size HB.out) (by omega) ?_; intro v8 w4 ho hb hg hat; have HB4 := Aside0.mk hb; have HO4 := Aside0.mk ho; have HG4 := Aside0.mk (blk_grown HG.out hg (Kd.R_ne HO.out HG.out (by decide))); have HS4 := Aside0.mk (blk_grown HS.out hg (Kd.R_ne HO.out HS.out (by decide))); clear ho hb hg hat; obtain ⟨z0, z1, z2, z3⟩ := Cl.four HG4.out; obtain ⟨f0, f1, f2, f3⟩ := Cl.ffour HG4.out; obtain ⟨x0, x1, x2, x3⟩ := HX.out; replace x0 := (HB4.out.cell (World.block_lt_of_cell? w _ x0)).trans x0; replace x1 := (HB4.out.cell (World.block_lt_of_cell? w _ x1)).trans x1; replace x2 := (HB4.out.cell (World.block_lt_of_cell? w _ x2)).trans x2; replace x3 := (HB4.out.cell (World.block_lt_of_cell? w _ x3)).trans x3))
     go_roundg kq2
     case measure => have := HK.out; omega
     case rel => exact ⟨y, A3, c3, acc ++ [(j : Int)], bg, by go_num, HL3, HC3, ⟨by refine blk_put (cs := #[.int .i64 y.f0, .int .i64 y.f1.f0, .string y.f1.f1, .slice (some ad) n.f2.length cc]) ?_ 3 _ rfl; refine blk_put (cs := #[.int .i64 y.f0, .int .i64 y.f1.f0, .string n.f1.f1, .slice (some ad) n.f2.length cc]) ?_ 2 _ rfl; refine blk_put (cs := #[.int .i64 y.f0, .int .i64 n.f1.f0, .string n.f1.f1, .slice (some ad) n.f2.length cc]) ?_ 1 _ rfl; refine blk_put (cs := #[.int .i64 n.f0, .int .i64 n.f1.f0, .string n.f1.f1, .slice (some ad) n.f2.length cc]) ?_ 0 _ rfl; exact HG4.out⟩, ⟨(Below.heap_setCell _ _ _ _ (by simp)).trans ((Below.heap_setCell _ _ _ _ (by simp)).trans ((Below.heap_setCell _ _ _ _ (by simp)).trans ((Below.heap_setCell _ _ _ _ (by simp)).trans (HS4.out))))⟩, ⟨by refine Kd.R_set (Kd.R_set (Kd.R_set (Kd.R_set HO4.out HG4.out ?ht 0 _) (blk_put HG4.out 0 _ rfl) ?ht 1 _) (blk_put (blk_put HG4.out 0 _ rfl) 1 _ rfl) ?ht 2 _) (blk_put (blk_put (blk_put HG4.out 0 _ rfl) 1 _ rfl) 2 _ rfl) ?ht 3 _; intro q hq e; subst e; revert hq; decide⟩, ⟨by repeat (first | exact HB4.out | refine below_set ?_ (Nat.le_refl _))⟩⟩

end Go.Proofs.Ytnafnieocpkkhaa.P

set_option linter.unusedVariables false
set_option linter.unusedSimpArgs false
namespace Go.Proofs.Ytnafnieocpkkhaa.P
open Go.RowKit Go.Proofs.YtnafnieocpkkhaaW.PrintWords Go.Proofs.YtnafnieocpkkhaaW.PrintLast Go.Proofs.YtnafnieocpkkhaaW.PrintMore
def isF (n : Nd) : Prop := ∃ m, fo m n = true
theorem isF.of_fmd {n : Nd} (h : fmd n = true) : isF n := ⟨1001, (Bool.and_eq_true_iff.1 h).1⟩
theorem isF.leaf {n : Nd} (h : isF n) (h1 : n.f0 = 1) : n.f2 = [] ∧ 0 < n.f1.f1.size := by
 obtain ⟨m, h⟩ := h
 cases m with
 | zero => cases h
 | succ m =>
  rw [fo, if_pos h1, Bool.and_eq_true, decide_eq_true_eq] at h; exact ⟨List.eq_nil_of_length_eq_zero h.1, (of_decide_eq_true h.2).1⟩
theorem isF.node {n : Nd} (h : isF n) (h1 : ¬ n.f0 = 1) : n.f1.f1.size = 0 ∧ n.f1.f0 = 0 := by
 obtain ⟨m, h⟩ := h
 cases m with
 | zero => cases h
 | succ m =>
  rw [fo, if_neg h1, Bool.and_eq_true, Bool.and_eq_true, Bool.and_eq_true, Bool.and_eq_true, beq_iff_eq, beq_iff_eq, Lib.toList_data] at h; have := congrArg List.length h.1.1.2.2; rw [isize] at this; exact ⟨this, h.1.1.2.1⟩
theorem isF.kid {n x : Nd} (h : isF n) (hx : x ∈ n.f2) : isF x := by
 obtain ⟨m, h⟩ := h
 cases m with
 | zero => cases h
 | succ m =>
  rw [fo] at h
  split at h
  ·rw [Bool.and_eq_true, decide_eq_true_eq] at h; rw [List.eq_nil_of_length_eq_zero h.1] at hx
   cases hx
  ·rw [Bool.and_eq_true] at h; exact ⟨m, List.all_eq_true.1 h.2 x hx⟩
theorem isF.at {p : List Int} {n x : Nd} {o : Nat} (h : isF n) (hx : atp p n = some (x, o)) : isF x := by
 obtain ⟨m, h⟩ := h; exact atp_fo h hx
theorem isF.wd {n : Nd} (h : isF n) (h1 : ¬ n.f0 = 1) : P.wd n = wds n.f2 := by
 rw [wd_wds, (h.node h1).1, Nat.zero_add]
theorem isF.lv : ∀ {n : Nd}, isF n → (0 < lv n ↔ 0 < P.wd n) := by
 suffices H : ∀ n, isF n → (0 < P.lv n ↔ 0 < P.wd n) from fun {n} => H n
 refine Nd.ind ?_; intro n ih h; rw [lv_eq]; by_cases h1 : n.f0 = 1
 ·rw [if_pos h1, wd_wds]; have := (h.leaf h1).2
  omega
 ·rw [if_neg h1, h.wd h1]; unfold wds
  have : ∀ l : List Nd, (∀ x ∈ l, x ∈ n.f2) → (0 < (l.map P.lv).sum ↔ 0 < (l.map P.wd).sum) := by
   intro l
   induction l with
   | nil => intro _; exact Iff.rfl
   | cons y r ihl =>
    intro hl; have e1 := ih y (hl y List.mem_cons_self) (h.kid (hl y List.mem_cons_self)); have e2 := ihl (fun z hz => hl z (List.mem_cons_of_mem _ hz)); simp only [List.map_cons, List.sum_cons]
    omega
  exact this n.f2 (fun _ h => h)
theorem rwidth_loop (n : Nd) (hl : n.f2.length < 1000000) : ∀ (r : List Nd) (i acc : Nat), n.f2.drop i = r → acc + wds r ≤ 1000000000 → (∀ x ∈ r, Ev (fun k => marginaliaref05_Width.f k x.f0 x.f1.f0 x.f1.f1 x.f2) (wd x : Int)) →
  Ev (fun k => marginaliaref05_Width.l0 k (acc : Int) (i : Int) n.f0 n.f1.f0 n.f1.f1 n.f2) ((acc + wds r : Nat) : Int) := by
 intro r
 induction r with
 | nil =>
  intro i acc hd hs hx; have := le_of_nil hd; refine Ev.shift ?_; simp only [marginaliaref05_Width.l0, wds, List.map_nil, List.sum_nil, Nat.add_zero]; exact Ev.neg (by omega) (Ev.now _)
 | cons e r ih =>
  intro i acc hd hs hx; have hlt := lt_of_drop hd; simp only [wds, List.map_cons, List.sum_cons] at hs ⊢; refine Ev.shift ?_; simp only [marginaliaref05_Width.l0]; rw [rd_nd hd]; refine Ev.pos (by omega) (Ev.pos (by omega) (Ev.bind (hx e (List.mem_cons_self)) ?_)); rw [w64 (n := (acc : Int) + (wd e : Int)) (by omega) (by omega), w64 (n := (i : Int) + 1) (by omega) (by omega)]; have := ih (i + 1) (acc + wd e) (drop_next hd) (by unfold wds; omega) (fun x h => hx x (List.mem_cons_of_mem _ h)); rw [show acc + (wd e + (r.map wd).sum) = acc + wd e + wds r by unfold wds; omega]
  exact_mod_cast this
theorem rwidth_ev : ∀ n : Nd, sm n → isF n → Ev (fun k => marginaliaref05_Width.f k n.f0 n.f1.f0 n.f1.f1 n.f2) (wd n : Int) := by
 refine Nd.ind ?_; intro n ih hs hf; refine Ev.shift ?_; simp only [marginaliaref05_Width.f]; by_cases h : n.f0 = 1
 ·refine Ev.pos h ?_; rw [wd_wds, (hf.leaf h).1]; exact Ev.now _
 ·refine Ev.neg h ?_; have := rwidth_loop n hs.len n.f2 0 0 rfl (by rw [← hf.wd h]; have := hs.1; omega) (fun x hx => ih x hx (hs.kid hx) (hf.kid hx)); rw [Nat.zero_add, ← hf.wd h] at this
  exact_mod_cast this
def holds (F T a : Nat) (l : List Nd) (j : Nat) (x : Nd) : Prop := l[j]? = some x ∧ a + wds (l.take j) ≤ F ∧ T ≤ a + wds (l.take j) + wd x
end Go.Proofs.Ytnafnieocpkkhaa.P

namespace Go.Proofs.Ytnafnieocpkkhaa.P
open Go.RowKit Go.Proofs.YtnafnieocpkkhaaW.PrintWords Go.Proofs.YtnafnieocpkkhaaW.PrintLast Go.Proofs.YtnafnieocpkkhaaW.PrintMore
attribute [local go_sem] max2_int min2_int max_two min_two max_three min_three max_four min_four
set_option linter.unusedVariables false
set_option linter.unusedSimpArgs false

def tree_Leaves.kids (g : S26 → Option (List (S23))) : List (S26) → Option (List (S23))
 | [] => some []
 | x :: r => (g x).bind fun a => (tree_Leaves.kids g r).bind fun b => some (a ++ b)
def tree_Leaves.go : Nat → S26 → Option (List (S23))
 | 0, _ => none
 | m + 1, n => if n.f0 = 1 then some [n.f1] else tree_Leaves.kids (tree_Leaves.go m) n.f2
attribute [local go_sem] Oper.semAt_some
abbrev tree_Leaves.enc (x : S23) : Array Value := #[.agg #[.int .i64 x.f0, .string x.f1]]
theorem tree_Leaves.nodepth {F : Fence} (hd : F.depth = none) {m : Nat} (m' : Nat) {P : Program} {l : Nat} {args : Array Value} {W : World} {R : Ending → World → Prop} (h : YieldAt F m P l args W R) : YieldAt F m' P l args W R := by
 obtain ⟨fn, tmps, assign, body, hy, hR⟩ := h; exact ⟨fn, tmps, assign, body, hy, hR.1, fun c cs _ => hR.2 c cs (fun d h => by rw [hd] at h; cases h)⟩
set_option maxRecDepth 100000 in
set_option maxHeartbeats 4000000 in
theorem tree_Leaves.push (F : Fence) (hd : F.depth = none) (hf : F.fn 63) (hro : F.round = none) (l N B : Nat) (w0 : World) (J Jx : List (S23) → World → Prop) (hJ : AbidesFrom B J)
  (hY : ∀ m pre x W, J pre W → pre.length < N → YieldAt F m Try.prog l (tree_Leaves.enc x) W fun e W' => (e = .returned (.bool true) ∧ J (pre ++ [x]) W' ∧ Below w0.heap.size W W') ∨ (e = .returned (.bool false) ∧ Jx (pre ++ [x]) W')) :
  ∀ (m : Nat) (n : S26) (L pre : List (S23)) (A : Option Addr) (c k : Nat) (W : World), tree_Leaves.go m n = some L → Kd.C k26 w0 A n.f2.length n.f2 → n.f2.length ≤ c → Below w0.heap.size w0 W → J pre W → pre.length + L.length ≤ N →
   CallsIn F k Try.prog 63 #[.agg #[.int .i64 n.f0, .int .i64 n.f1.f0, .string n.f1.f1, .slice A n.f2.length c], .func (.yield l) #[] #[]] W fun e W' =>
    (e = .returned (.bool true) ∧ J (pre ++ L) W' ∧ Below w0.heap.size w0 W') ∨ (e = .returned (.bool false) ∧ ∃ q, q <+: L ∧ Jx (pre ++ q) W')
 | 0, n, L, pre, A, c, k, W, h, _, _, _, _, _ => by simp [tree_Leaves.go] at h
 | m + 1, n, L, pre, A, c, k, W, h, hC, hc, hB, hJ0, hN => by
  have IH := tree_Leaves.push F hd hf hro l N B w0 J Jx hJ hY m
  have hdd : ∀ k : Nat, (F.depth.isSome = true → 1 ≤ k) := fun k h => by rw [hd] at h; cases h
  have hal : ∀ pre W (o : Obj), J pre W → J pre (W.alloc o) := fun pre W o hj => hJ pre W _ none hj (World.grownBy_alloc W o none) (fun r e => by cases e)
  simp only [tree_Leaves.go] at h; by_cases c0 : n.f0 = 1
  ·rw [if_pos c0] at h; obtain rfl := Option.some.inj h; clear h; obtain ⟨f0, f1, f2⟩ := n; simp only at c0 hC hc hN ⊢; subst c0
   have hlt : pre.length < N := (by simp only [List.length_cons, List.length_nil] at hN; omega)
   obtain ⟨fn, tmps, assign, body, hy, hR⟩ := hY (k - 1) pre f1 (W.alloc (.cells #[.int .i64 1, .int .i64 f1.f0, .string f1.f1, .slice A f2.length c] 26)) (hal _ _ _ hJ0) hlt; have hB1 : Below w0.heap.size w0 (W.alloc (.cells #[.int .i64 1, .int .i64 f1.f0, .string f1.f1, .slice A f2.length c] 26)) := below_alloc hB _; dsimp only [tree_Leaves.enc] at hy; clear IH; refine callsIn_of_wp Try.func63 rfl hf ?_ hro; simp only [Try.ntmps63, List.size_toArray, List.length_cons, List.length_nil, Nat.reduceAdd, Nat.reduceSub, Array.replicate_succ, Array.replicate_zero, List.push_toArray, List.append_toArray, List.nil_append, List.cons_append]
   gi_wp2_with ((try refine ⟨hdd _, ?_⟩); refine hR.mono ?_; clear hR; rintro e W2 (⟨rfl, hJ2, hb2⟩ | ⟨rfl, hx2⟩))
   ·go_ret; exact .inl ⟨rfl, hJ2, hB1.trans hb2⟩
   ·go_ret; exact .inr ⟨rfl, [f1], List.prefix_refl _, hx2⟩
  ·rw [if_neg c0] at h; have d1 : (n.f0 == 1) = false := beq_eq_false_iff_ne.mpr c0; have HC := Aside0.mk hC; have hmax : n.f2.length ≤ 9223372036854775807 := hC.2.1
   obtain ⟨W1, hW1⟩ : ∃ W1, W1 = W.alloc (.cells #[.int .i64 n.f0, .int .i64 n.f1.f0, .string n.f1.f1, .slice A n.f2.length c] 26) := ⟨_, rfl⟩
   have hB1 : Below w0.heap.size w0 W1 := (by rw [hW1]; exact below_alloc hB _)
   have hJ1 : J pre W1 := (by rw [hW1]; exact hal _ _ _ hJ0)
   have HH := Aside0.mk h; have HB := Aside0.mk hB1; clear h hC hB hB1 hJ0 c0; refine callsIn_of_wp Try.func63 rfl hf ?_ hro; simp only [Try.ntmps63, List.size_toArray, List.length_cons, List.length_nil, Nat.reduceAdd, Nat.reduceSub, Array.replicate_succ, Array.replicate_zero, List.push_toArray, List.append_toArray, List.nil_append, List.cons_append]
   gi_wp2
   rw [← hW1]; clear hW1
   gi_loopw [17] (fun p wr => ∃ (i : Nat) (pr Lr : List (S23)), p = .int .i64 (i : Int) ∧ Aside0 (i ≤ n.f2.length) ∧ Aside0 (tree_Leaves.kids (tree_Leaves.go m) (n.f2.drop i) = some Lr) ∧ Aside0 (∃ q, L = q ++ Lr ∧ pr = pre ++ q) ∧ Aside0 (J pr wr) ∧ Aside0 (Below w0.heap.size w0 wr)) (fun p _ => n.f2.length - (intOf p).toNat)
   case atStart => exact ⟨0, pre, L, rfl, ⟨by omega⟩, HH, ⟨[], rfl, by simp⟩, ⟨hJ1⟩, HB⟩
   case round =>
    clear HH HB hJ1; obtain ⟨i, pr, Lr, rfl, HK, HH, HQ, HJ, HB⟩ := hrel; by_cases hlt : i < n.f2.length
    ·have hd1 : decide ((i : Int) < (n.f2.length : Int)) = true := decide_eq_true (by omega); have H := HH.out; rw [List.drop_eq_getElem_cons hlt] at H; simp only [tree_Leaves.kids] at H; replace H := zo H; obtain ⟨a, ha, H⟩ := H; replace H := zo H; obtain ⟨b, hb, H⟩ := H; have HE := Aside0.mk (Option.some.inj H)
     have hrd : rd_T26 n.f2 (i : Int) = n.f2[i] := (by simp [rd_T26, hlt])
     obtain ⟨ad, A3, c3, e, hx0, hx1, hx2, hx3, hl3, hC3⟩ := at_T26 HC.out (i : Int) (by omega) (by omega); rw [hrd] at hx0 hx1 hx2 hx3 hl3 hC3; rw [Int.toNat_natCast] at hx0 hx1 hx2 hx3
     cases e
     replace hx0 := zh HB hx0; replace hx1 := zh HB hx1; replace hx2 := zh HB hx2; replace hx3 := zh HB hx3; clear hrd HH H; generalize n.f2[i] = x at *
     have hN2 : pr.length + a.length ≤ N := by
      obtain ⟨q, hq1, hq2⟩ := HQ.out; have e1 := congrArg List.length hq1; have e2 := congrArg List.length hq2; have e3 := congrArg List.length HE.out; simp only [List.length_append] at e1 e2 e3
      omega
     have HCall := Aside0.mk (IH x a pr A3 c3 (k - 1) (wr.alloc (.cells #[.int .i64 x.f0, .int .i64 x.f1.f0, .string x.f1.f1, .slice A3 x.f2.length c3] 26)) ha.out hC3 hl3 (below_alloc HB.out _) (hal _ _ _ HJ.out) hN2); clear hl3 hC3 hN2 ha
     gi_wp2_with ((try refine ⟨hdd _, ?_⟩); gi_at_call 63; refine HCall.out.mono ?_; clear HCall; rintro e W2 (⟨rfl, hJ2, hb2⟩ | ⟨rfl, q2, hq2, hx2⟩))
     ·have HJ2 := Aside0.mk hJ2; have HB2 := Aside0.mk hb2; clear hJ2 hb2
      gi_wp2
      go_roundw
      case rel =>
       refine ⟨i + 1, pr ++ a, b, by go_num, ⟨by omega⟩, hb, ⟨?_⟩, HJ2, HB2⟩; obtain ⟨q, hq1, hq2⟩ := HQ.out; exact ⟨q ++ a, by rw [hq1, ← HE.out, List.append_assoc], by rw [hq2, List.append_assoc]⟩
      case measure => have hw : wrap64 ((i : Int) + 1) = (i : Int) + 1 := (by unfold wrap64; omega); simp only [intOf]; (try rw [hw]); omega
     ·gi_wp2
      go_ret; obtain ⟨q, hq1, hq3⟩ := HQ.out; refine .inr ⟨rfl, q ++ q2, ?_, by rw [← List.append_assoc, ← hq3]; exact hx2⟩; obtain ⟨s, hs⟩ := hq2; exact ⟨s ++ b, by rw [hq1, ← HE.out, ← hs]; simp⟩
    ·have hd1 : decide ((i : Int) < (n.f2.length : Int)) = false := decide_eq_false (by omega); have hd2 : decide (i < n.f2.length) = false := decide_eq_false hlt; have H := HH.out; rw [List.drop_of_length_le (by omega)] at H; simp only [tree_Leaves.kids, Option.some.injEq] at H
     gi_wp2
     go_ret; obtain ⟨q, hq1, hq3⟩ := HQ.out; refine .inl ⟨rfl, ?_, HB.out⟩
     have : pr = pre ++ L := (by rw [hq3, hq1, ← H, List.append_nil])
     rw [← this]; exact HJ.out
theorem tree_Leaves.blk_own {β : Type} (B : Nat) (cs : Array Value) (t : TypeId) : Own (fun (_ : β) W => W.heap[B]? = some (.cells cs t (0, 0))) := fun s X Y row hs hg hrow => by
 refine (hg.block B (Array.getElem?_eq_some_iff.1 hs).1 (fun e' => ?_)).trans hs; obtain ⟨o, ho, hc⟩ := hrow B e'.symm; rw [hs] at ho
 cases ho
 cases hc
end Go.Proofs.Ytnafnieocpkkhaa.P

namespace Go.Proofs.Ytnafnieocpkkhaa.P
open Go.RowKit Go.Proofs.YtnafnieocpkkhaaW.PrintWords Go.Proofs.YtnafnieocpkkhaaW.PrintLast Go.Proofs.YtnafnieocpkkhaaW.PrintMore
attribute [local go_sem] max2_int min2_int max_two min_two max_three min_three max_four min_four
set_option linter.unusedVariables false
set_option linter.unusedSimpArgs false

def tree_text.all (g : S26 → List UInt8 → Option (List UInt8)) : List (S26) → List UInt8 → Option (List UInt8)
 | [], acc => some acc
 | x :: r, acc => (g x acc).bind fun a => tree_text.all g r a
def tree_text.go : Nat → S26 → List UInt8 → Option (List UInt8)
 | 0, _, _ => none
 | k + 1, n, acc => if acc.length + n.f1.f1.size ≤ 140737488355328 then tree_text.all (tree_text.go k) n.f2 (acc ++ n.f1.f1.data.toList) else none
def tree_text.f (k : Nat) (a0_0 : Int) (a0_1 : Int) (a0_2 : ByteArray) (l0_3 : List (S26)) : Option (ByteArray) := (tree_text.go k ⟨a0_0, ⟨a0_1, a0_2⟩, l0_3⟩ []).bind fun l => some ⟨l.toArray⟩
def tree_text.Holds (k : Nat) (w0 : World) (b : Nat) : Prop := ∀ (n : S26) (A : Option Addr) (cc : Nat) (acc r : List UInt8) (w : World), n.f2.length ≤ cc → Kd.C k26 w0 A n.f2.length n.f2 → Below w0.heap.size w0 w → Bld.IsB w0.heap.size b acc w → tree_text.go k n acc = some r →
 Calls Try.prog 83 #[.pointer (some ⟨b, 0, none⟩), .agg #[.int .i64 n.f0, .int .i64 n.f1.f0, .string n.f1.f1, .slice A n.f2.length cc]] w fun e w' => e = .returned (.tuple #[]) ∧ Bld.IsB w0.heap.size b r w' ∧ Below w0.heap.size w0 w'
set_option maxHeartbeats 8000000 in
set_option maxRecDepth 100000 in
theorem tree_text.write_ok (w0 : World) (b : Nat) : ∀ k, tree_text.Holds k w0 b := by
 have hu := Try.underlying26; have hu2 := Try.underlying23; intro k
 induction k with
 | zero =>
  intro n A cc acc r w hcc hC hB hI h
  simp [tree_text.go] at h
 | succ k ih =>
  intro n A cc acc r w hcc hC hB hI h; rw [tree_text.go] at h; obtain ⟨hlen, h⟩ := Ut.ite_some h; have HH := Aside0.mk h; have HC := Aside0.mk hC; have IH := Aside0.mk ih; have hmax : n.f2.length ≤ 9223372036854775807 := hC.2.1; have HB := Aside0.mk (below_alloc hB (.cells #[.int .i64 n.f0, .int .i64 n.f1.f0, .string n.f1.f1, .slice A n.f2.length cc] 26)); have HI := Aside0.mk (hI.alloc (.cells #[.int .i64 n.f0, .int .i64 n.f1.f0, .string n.f1.f1, .slice A n.f2.length cc] 26)); have HO := Aside0.mk (blk_new w (.cells #[.int .i64 n.f0, .int .i64 n.f1.f0, .string n.f1.f1, .slice A n.f2.length cc] 26)); have hbl := hI.lt; have HNE := Aside0.mk (show w.heap.size ≠ b by omega); clear h hC ih hB hI hbl; go_enter Try.func83, Try.ntmps83
  go_wp2_with (go_at_call 92; refine (Bld.write w0.heap.size b acc n.f1.f1 _ HI.out hlen (below_size HB.out)).mono ?_; rintro e w1 ⟨rfl, hI1, hb1, hk1⟩; have HI1 := Aside0.mk hI1; have HB1 := Aside0.mk (HB.out.trans hb1); have z3 : w1.cell? ⟨w.heap.size, 3, none⟩ = some (.slice A n.f2.length cc) := Lib.cell_of_heap (hk1 _ _ HO.out (fun e => HNE.out (Option.some.inj e)) (by intro c fz e; injection e with _ e2; exact absurd e2 (by decide))) 3; clear hI1 hb1 hk1)
  go_loopg [14] n.f2.length (fun kq v14 w' => ∃ (i : Nat) (ac : List UInt8), v14 = .int .i64 (i : Int) ∧ Aside0 (i + kq = n.f2.length) ∧ Aside0 (tree_text.all (tree_text.go k) (n.f2.drop i) ac = some r) ∧ Aside0 (Bld.IsB w0.heap.size b ac w') ∧ Aside0 (Below w0.heap.size w0 w'))
  case atStart => exact ⟨0, _, rfl, ⟨by omega⟩, HH, HI1, HB1⟩
  case round =>
   clear HH HI HB HI1 HB1 z3; obtain ⟨i, ac, rfl, HK, HH, HI, HB⟩ := hrel; by_cases hlt : i < n.f2.length
   ·have hd1 : decide ((i : Int) < (n.f2.length : Int)) = true := decide_eq_true (by omega); have H := HH.out; rw [List.drop_eq_getElem_cons hlt] at H; simp only [tree_text.all] at H; obtain ⟨a, ha, Hn⟩ := Option.bind_eq_some_iff.mp H; clear H
    have hrd : rd_T26 n.f2 (i : Int) = n.f2[i] := (by simp [rd_T26, hlt])
    obtain ⟨ad, A3, c3, e, hx0, hx1, hx2, hx3, hl3, hC3⟩ := at_T26 HC.out (i : Int) (by omega) (by omega); rw [hrd] at hx0 hx1 hx2 hx3 hl3 hC3; rw [Int.toNat_natCast] at hx0 hx1 hx2 hx3
    cases e
    replace hx0 := (HB.out.cell (World.block_lt_of_cell? w0 _ hx0)).trans hx0; replace hx1 := (HB.out.cell (World.block_lt_of_cell? w0 _ hx1)).trans hx1; replace hx2 := (HB.out.cell (World.block_lt_of_cell? w0 _ hx2)).trans hx2; replace hx3 := (HB.out.cell (World.block_lt_of_cell? w0 _ hx3)).trans hx3; clear hrd HH; generalize n.f2[i] = x at *; have HCall := Aside0.mk (IH.out x A3 c3 ac a (wr.alloc (.cells #[.int .i64 x.f0, .int .i64 x.f1.f0, .string x.f1.f1, .slice A3 x.f2.length c3] 26)) hl3 hC3 (below_alloc HB.out _) (HI.out.alloc _) ha); have HH2 := Aside0.mk Hn; clear Hn ha hl3 hC3
    cases gk with
    | zero => exact absurd hlt (by have := HK.out; omega)
    | succ kq' =>
    go_wp2_with (go_at_call 83; refine HCall.out.mono ?_; rintro e w2 ⟨rfl, h1, h2⟩; have H1 := Aside0.mk h1; have H2 := Aside0.mk h2; clear h1 h2)
    go_roundg kq'
    case measure => omega
    case rel => exact ⟨i + 1, _, by go_num, ⟨by have := HK.out; omega⟩, HH2, H1, H2⟩
   ·have hd1 : decide ((i : Int) < (n.f2.length : Int)) = false := decide_eq_false (by omega); have H := HH.out; rw [List.drop_of_length_le (by have := HK.out; omega)] at H; simp only [tree_text.all, Option.some.injEq] at H; subst H; go_wp2_with fail; go_end0; exact ⟨rfl, HI.out, HB.out⟩
set_option maxHeartbeats 8000000 in
set_option maxRecDepth 100000 in
theorem tree_text.calls (k : Nat) (a0_0 : Int) (a0_1 : Int) (a0_2 : ByteArray) (A0_3 : Option Addr) (c0_3 : Nat) (l0_3 : List (S26)) (r : ByteArray) (w : World) (hr0_3 : Kd.C k26 w A0_3 l0_3.length l0_3) (hc0_3 : l0_3.length ≤ c0_3) (h : tree_text.f k a0_0 a0_1 a0_2 l0_3 = some r) :
  Calls Try.prog 61 #[.agg #[.int .i64 a0_0, .int .i64 a0_1, .string a0_2, .slice A0_3 l0_3.length c0_3]] w fun e w' => e = .returned (.string r) ∧ Below w.heap.size w w' := by
 have hu := Try.underlying26; obtain ⟨l, hl, h⟩ := Option.bind_eq_some_iff.mp h; injection h with h; subst h; have hB := below_alloc (below_alloc (Below.refl w.heap.size w) (.cells #[.int .i64 a0_0, .int .i64 a0_1, .string a0_2, .slice A0_3 l0_3.length c0_3] 26)) (.cells #[.pointer none, .slice none 0 0] 114)
 have hI : Bld.IsB w.heap.size (w.heap.size + 1) [] ((w.alloc (.cells #[.int .i64 a0_0, .int .i64 a0_1, .string a0_2, .slice A0_3 l0_3.length c0_3] 26)).alloc (.cells #[.pointer none, .slice none 0 0] 114)) := by
  have := Bld.IsB.new (B := w.heap.size) (w := w.alloc (.cells #[.int .i64 a0_0, .int .i64 a0_1, .string a0_2, .slice A0_3 l0_3.length c0_3] 26)) (by simp)
  simpa using this
 have HF := Aside0.mk (tree_text.write_ok w (w.heap.size + 1) k ⟨a0_0, ⟨a0_1, a0_2⟩, l0_3⟩ A0_3 c0_3 [] l _ hc0_3 hr0_3 hB hI hl); clear hl hB hI hr0_3; go_enter Try.func61, Try.ntmps61
 go_wp2_with (first | (go_at_call 83; refine HF.out.mono ?_; rintro e w1 ⟨rfl, h1, h2⟩; have HI := Aside0.mk h1; have HB := Aside0.mk h2; clear h1 h2) | (go_at_call 84; refine (Bld.string w.heap.size (w.heap.size + 1) l _ HI.out (below_size HB.out)).mono ?_; rintro e w2 ⟨rfl, hb2⟩; have HB2 := Aside0.mk (HB.out.trans hb2); clear hb2))
 go_ret; exact ⟨rfl, HB2.out⟩

end Go.Proofs.Ytnafnieocpkkhaa.P

namespace Go.Proofs.Ytnafnieocpkkhaa.P
open Go.RowKit Go.Proofs.YtnafnieocpkkhaaW.PrintWords Go.Proofs.YtnafnieocpkkhaaW.PrintLast Go.Proofs.YtnafnieocpkkhaaW.PrintMore
attribute [local go_sem] max2_int min2_int max_two min_two max_three min_three max_four min_four
set_option linter.unusedVariables false
set_option linter.unusedSimpArgs false

/-! ### tree_Text: function 26 -/
def tree_Text.f (k : Nat) (a0_0 : Int) (a0_1 : Int) (a0_2 : ByteArray) (l0_3 : List (S26)) : Option (ByteArray × Int) := (tree_IsFormed.f k a0_0 a0_1 a0_2 l0_3).bind fun t233 => (if t233 = true then ((tree_text.f k a0_0 a0_1 a0_2 l0_3).bind fun t234 => (some (t234, 0))) else (some ((⟨#[]⟩ : ByteArray), 4)))
set_option maxHeartbeats 8000000 in
set_option maxRecDepth 100000 in
theorem tree_Text.calls (k : Nat) (a0_0 : Int) (a0_1 : Int) (a0_2 : ByteArray) (A0_3 : Option Addr) (c0_3 : Nat) (l0_3 : List (S26)) (r1 : ByteArray) (r2 : Int) (w : World) (hr0_3 : Kd.C k26 w A0_3 l0_3.length l0_3) (hc0_3 : l0_3.length ≤ c0_3) (h : tree_Text.f k a0_0 a0_1 a0_2 l0_3 = some (r1, r2)) :
  Calls Try.prog 26 #[.agg #[.int .i64 a0_0, .int .i64 a0_1, .string a0_2, .slice A0_3 l0_3.length c0_3]] w fun e w' => e = .returned (.tuple #[.string r1, .int .i64 r2]) ∧ Below w.heap.size w w' := by
 have hu26 := Try.underlying26; have HR0_3 := Aside0.mk hr0_3; have HC0_3 := Aside0.mk hc0_3; clear hr0_3 hc0_3; have HB := Aside0.mk (Below.refl w.heap.size w); have H : ((tree_IsFormed.f k a0_0 a0_1 a0_2 l0_3).bind fun t233 => (if t233 = true then ((tree_text.f k a0_0 a0_1 a0_2 l0_3).bind fun t234 => (some (t234, 0))) else (some ((⟨#[]⟩ : ByteArray), 4)))) = some (r1, r2) := h; clear h; replace H := zo H; obtain ⟨t233, A2, H⟩ := H; by_cases c3 : t233 = true
 ·subst c3; rw [if_pos rfl] at H; replace H := zo H; obtain ⟨t234, A4, H⟩ := H; simp only [Option.some.injEq, Prod.mk.injEq] at H; obtain ⟨rfl, rfl⟩ := H; go_enter Try.func26, Try.ntmps26
  go_wp2_with (first | ((with_reducible refine zD 1 rfl ?_); refine zx 1 #[.int .i64 a0_0, .int .i64 a0_1, .string a0_2, .slice A0_3 l0_3.length c0_3] 26 ?_; intro gb232 hg w5 hbox hb; have BK232 := Aside0.mk (hbox); have GW232 := (zq hg : Aside0 (w.heap.size ≤ gb232)); have GE232 := GW232; replace HB := (zB hb); clear hb hbox hg; obtain ⟨hcz6_0, hcz6_1, hcz6_2, hcz6_3⟩ := zc4 BK232; obtain ⟨hfz6_0, hfz6_1, hfz6_2, hfz6_3⟩ := zz4 BK232) | ((with_reducible refine zG 30 rfl ?_); refine zg 5 Try.func30 ((tree_IsFormed.calls k a0_0 a0_1 a0_2 _ _ l0_3 true _ ?side1 ?side2 A2.out).mono ?_); (case side1 => exact zC HR0_3); (case side2 => exact HC0_3.out); rintro e w7 ⟨rfl, hb⟩; refine ⟨_, rfl, ?_⟩; replace BK232 := (zK BK232 hb); replace HB := (zB hb); (try clear hb); (try clear hb2); (try clear hk); (try clear hi); obtain ⟨hcz8_0, hcz8_1, hcz8_2, hcz8_3⟩ := zc4 BK232; obtain ⟨hfz8_0, hfz8_1, hfz8_2, hfz8_3⟩ := zz4 BK232) | ((with_reducible refine zG 61 rfl ?_); refine zg 8 Try.func61 ((tree_text.calls k a0_0 a0_1 a0_2 _ _ l0_3 t234 _ ?side1 ?side2 A4.out).mono ?_); (case side1 => exact zC HR0_3); (case side2 => exact HC0_3.out); rintro e w9 ⟨rfl, hb⟩; refine ⟨_, rfl, ?_⟩; replace BK232 := (zK BK232 hb); replace HB := (zB hb); (try clear hb); (try clear hb2); (try clear hk); (try clear hi)))
  go_ret2
  exact ⟨zr, zb⟩
 ·replace c3 := Bool.eq_false_iff.mpr c3; subst c3; replace H := zf H; simp only [Option.some.injEq, Prod.mk.injEq] at H; obtain ⟨rfl, rfl⟩ := H; go_enter Try.func26, Try.ntmps26
  go_wp2_with (first | ((with_reducible refine zD 1 rfl ?_); refine zx 1 #[.int .i64 a0_0, .int .i64 a0_1, .string a0_2, .slice A0_3 l0_3.length c0_3] 26 ?_; intro gb232 hg w10 hbox hb; have BK232 := Aside0.mk (hbox); have GW232 := (zq hg : Aside0 (w.heap.size ≤ gb232)); have GE232 := GW232; replace HB := (zB hb); clear hb hbox hg; obtain ⟨hcz11_0, hcz11_1, hcz11_2, hcz11_3⟩ := zc4 BK232; obtain ⟨hfz11_0, hfz11_1, hfz11_2, hfz11_3⟩ := zz4 BK232) | ((with_reducible refine zG 30 rfl ?_); refine zg 5 Try.func30 ((tree_IsFormed.calls k a0_0 a0_1 a0_2 _ _ l0_3 false _ ?side1 ?side2 A2.out).mono ?_); (case side1 => exact zC HR0_3); (case side2 => exact HC0_3.out); rintro e w12 ⟨rfl, hb⟩; refine ⟨_, rfl, ?_⟩; replace BK232 := (zK BK232 hb); replace HB := (zB hb); (try clear hb); (try clear hb2); (try clear hk); (try clear hi)))
  go_ret2
  exact ⟨zr, zb⟩

/-! ### tree_count: function 64 -/
mutual
def tree_count.l0 : Nat → Int → Int → List (S26) → Int → Int → Option (Int × Int)
 | 0, _, _, _, _, _ => none
 | k + 1, x4, x5, x11, x12, x13 => if x13 < x12 then (if 0 ≤ x13 then (if x13 < (x11.length : Int) then ((tree_count.f k ((rd_T26 x11 x13).f0) ((rd_T26 x11 x13).f1.f0) ((rd_T26 x11 x13).f1.f1) ((rd_T26 x11 x13).f2)).bind fun bt238 => (tree_count.l0 k (wrap64 (x4 + bt238.1)) (mx x5 (wrap64 (bt238.2 + 1))) x11 x12 (wrap64 (x13 + 1)))) else (none)) else (none)) else (some (x4, x5))
def tree_count.f : Nat → Int → Int → ByteArray → List (S26) → Option (Int × Int)
 | 0, _, _, _, _ => none
 | k + 1, a0_0, a0_1, a0_2, l0_3 => tree_count.l0 k 1 0 l0_3 (l0_3.length : Int) 0
end
set_option maxHeartbeats 8000000 in
set_option maxRecDepth 100000 in
theorem tree_count.calls (k : Nat) : ∀ (a0_0 : Int) (a0_1 : Int) (a0_2 : ByteArray) (A0_3 : Option Addr) (c0_3 : Nat) (l0_3 : List (S26)) (r1 : Int) (r2 : Int) (w : World) (hr0_3 : Kd.C k26 w A0_3 l0_3.length l0_3) (hc0_3 : l0_3.length ≤ c0_3) (h : tree_count.f k a0_0 a0_1 a0_2 l0_3 = some (r1, r2)),
  Calls Try.prog 64 #[.agg #[.int .i64 a0_0, .int .i64 a0_1, .string a0_2, .slice A0_3 l0_3.length c0_3]] w fun e w' => e = .returned (.tuple #[.int .i64 r1, .int .i64 r2]) ∧ Below w.heap.size w w' := by
 induction k using Nat.strongRecOn with
 | _ k ih =>
 intro a0_0 a0_1 a0_2 A0_3 c0_3 l0_3 r1 r2 w hr0_3 hc0_3 h
 cases k with
 | zero => exact absurd h (by simp [tree_count.f])
 | succ k =>
 simp only [tree_count.f] at h; have hu26 := Try.underlying26; have HR0_3 := Aside0.mk hr0_3; have HC0_3 := Aside0.mk hc0_3; clear hr0_3 hc0_3; have HB := Aside0.mk (Below.refl w.heap.size w); have H : (tree_count.l0 k 1 0 l0_3 (l0_3.length : Int) 0) = some (r1, r2) := h; clear h; have H' := Aside0.mk H; clear H; go_enter Try.func64, Try.ntmps64
 go_wp2_with (first | ((with_reducible refine zD 1 rfl ?_); refine zx 1 #[.int .i64 a0_0, .int .i64 a0_1, .string a0_2, .slice A0_3 l0_3.length c0_3] 26 ?_; intro gb235 hg w2 hbox hb; have BK235 := Aside0.mk (hbox); have GW235 := (zq hg : Aside0 (w.heap.size ≤ gb235)); have GE235 := GW235; replace HB := (zB hb); clear hb hbox hg; obtain ⟨hcz3_0, hcz3_1, hcz3_2, hcz3_3⟩ := zc4 BK235; obtain ⟨hfz3_0, hfz3_1, hfz3_2, hfz3_3⟩ := zz4 BK235))
 go_loopg [4, 5, 13] k (fun kq v4 v5 v13 w' => ∃ (x4_1 : Int) (x5_1 : Int) (x13_1 : Int), v4 = .int .i64 x4_1 ∧ v5 = .int .i64 x5_1 ∧ v13 = .int .i64 x13_1 ∧ Aside0 (tree_count.l0 kq x4_1 x5_1 l0_3 (l0_3.length : Int) x13_1 = some (r1, r2)) ∧ Aside0 (kq ≤ k) ∧ Aside0 (w'.heap[gb235]? = some (.cells #[.int .i64 a0_0, .int .i64 a0_1, .string a0_2, (.slice A0_3 l0_3.length c0_3)] 26 (0, 0))) ∧ Aside0 (Below w.heap.size w w'))
 case atStart => exact ⟨(1), (0), (0), zs, zs, zs, H', ⟨Nat.le_refl _⟩, (zA BK235), ⟨zb⟩⟩
 case round =>
  clear H'; obtain ⟨x4_1, x5_1, x13_1, rfl, rfl, rfl, HA, HK1, BK235, HB⟩ := hrel
  cases gk with
  | zero => exact absurd HA.out (by simp [tree_count.l0])
  | succ k1 =>
   have H := HA.out; clear HA; simp only [tree_count.l0] at H; by_cases c4 : x13_1 < (l0_3.length : Int)
   ·rw [if_pos c4] at H; have c4b0 := decide_eq_true c4; clear c4; replace H := zi1 H; obtain ⟨c5b0, H⟩ := H; replace H := zi1 H; obtain ⟨c6b0, H⟩ := H; replace H := Option.bind_eq_some_iff.mp H; obtain ⟨⟨t238, t239⟩, A70, H⟩ := H; replace H : (tree_count.l0 k1 (wrap64 (x4_1 + t238)) (mx x5_1 (wrap64 (t239 + 1))) l0_3 (l0_3.length : Int) (wrap64 (x13_1 + 1))) = some (r1, r2) := H; have A7 := Aside0.mk A70; clear A70
    obtain ⟨ji8, hji8⟩ : ∃ j_ : Int, (mx x5_1 (wrap64 (t239 + 1))) = j_ := ⟨_, rfl⟩
    replace H : (tree_count.l0 k1 (wrap64 (x4_1 + t238)) ji8 l0_3 (l0_3.length : Int) (wrap64 (x13_1 + 1))) = some (r1, r2) := by first | (rw [hji8] at H; exact H) | (simp only [hji8] at H ⊢; exact H)
    (try rw [hji8] at A7)
    have hji8_ : (if x5_1 < (wrap64 (t239 + 1)) then (wrap64 (t239 + 1)) else x5_1) = ji8 := hji8; have H' := Aside0.mk H; clear H; have p236 : 0 ≤ (x13_1 : Int) := zt; have q236 : x13_1 < (l0_3.length : Int) := zt; obtain ⟨ad236, A236_3, c236_3, e236, hx236_0, hx236_1, hx236_2, hx236_3, hl236_3, hi236_3⟩ := at_T26 HR0_3.out x13_1 p236 q236
    cases e236
    replace hx236_0 := zh HB hx236_0; replace hx236_1 := zh HB hx236_1; replace hx236_2 := zh HB hx236_2; replace hx236_3 := zh HB hx236_3; have HR236_3 := Aside0.mk hi236_3; have HC236_3 := Aside0.mk hl236_3; clear hi236_3 hl236_3; replace p236 := eq_true p236; replace q236 := eq_true q236
    go_wp2_with (first | ((with_reducible refine zD 7 rfl ?_); refine zx 7 #[.int .i64 0, .int .i64 0, .string (⟨#[]⟩ : ByteArray), .slice none 0 0] 26 ?_; intro gb237 hg w9 hbox hb; have BK237 := Aside0.mk (hbox); have GW237 := (zq hg : Aside0 (w.heap.size ≤ gb237)); have GE237 := GW237; replace HB := (zB hb); have NB235_237 := (zl hg BK235 : Aside0 (gb235 ≠ gb237)); have NB237_235 := (zl' hg BK235 : Aside0 (gb237 ≠ gb235)); replace BK235 := (zK BK235 hb); clear hb hbox hg; have hnb10 := NB237_235.out; have hnc10 := NB235_237.out; obtain ⟨hcz11_0, hcz11_1, hcz11_2, hcz11_3⟩ := zc4 BK237; obtain ⟨hfz11_0, hfz11_1, hfz11_2, hfz11_3⟩ := zz4 BK237) | ((with_reducible refine zG 64 rfl ?_); refine zg 19 Try.func64 ((ih k1 (by have := HK1.out; omega) ((rd_T26 l0_3 x13_1).f0) ((rd_T26 l0_3 x13_1).f1.f0) ((rd_T26 l0_3 x13_1).f1.f1) _ _ ((rd_T26 l0_3 x13_1).f2) t238 t239 _ ?side1 ?side2 A7.out).mono ?_); (case side1 => exact Kd.C_below HR236_3.out zb); (case side2 => exact HC236_3.out); rintro e w12 ⟨rfl, hb⟩; refine ⟨_, rfl, ?_⟩; replace BK235 := (zw2 gb235 #[.int .i64 a0_0, .int .i64 a0_1, .string a0_2, .slice (some ad236) l0_3.length c0_3] 26 hb); replace BK237 := (zw2 gb237 #[.int .i64 ((rd_T26 l0_3 x13_1).f0), .int .i64 ((rd_T26 l0_3 x13_1).f1.f0), .string ((rd_T26 l0_3 x13_1).f1.f1), .slice A236_3 ((rd_T26 l0_3 x13_1).f2).length c236_3] 26 hb); replace HB := (zB hb); (try clear hb); (try clear hb2); (try clear hk); (try clear hi)))
    go_roundg k1
    case measure => have := HK1.out; omega
    case rel => exact ⟨(wrap64 (x4_1 + t238)), (ji8), (wrap64 (x13_1 + 1)), zs, (by first | rfl | (simp; done) | (simp only [← hji8] <;> (first | rfl | simp)) | (simp [*]; done)), zs, H', zk, (zA BK235), ⟨zb⟩⟩
   ·rw [if_neg c4] at H; have c4b0 := decide_eq_false c4; clear c4; simp only [Option.some.injEq, Prod.mk.injEq] at H; obtain ⟨rfl, rfl⟩ := H; go_wp2
    go_ret2
    exact ⟨zr, zb⟩

/-! ### tree_Count: function 29 -/
def tree_Count.f (k : Nat) (a0_0 : Int) (a0_1 : Int) (a0_2 : ByteArray) (l0_3 : List (S26)) : Option (Int × Int × Int) := (tree_IsFormed.f k a0_0 a0_1 a0_2 l0_3).bind fun t241 => (if t241 = true then ((tree_count.f k a0_0 a0_1 a0_2 l0_3).bind fun bt242 => (some (bt242.1, bt242.2, 0))) else (some (0, 0, 4)))
set_option maxHeartbeats 8000000 in
set_option maxRecDepth 100000 in
theorem tree_Count.calls (k : Nat) (a0_0 : Int) (a0_1 : Int) (a0_2 : ByteArray) (A0_3 : Option Addr) (c0_3 : Nat) (l0_3 : List (S26)) (r1 : Int) (r2 : Int) (r3 : Int) (w : World) (hr0_3 : Kd.C k26 w A0_3 l0_3.length l0_3) (hc0_3 : l0_3.length ≤ c0_3) (h : tree_Count.f k a0_0 a0_1 a0_2 l0_3 = some (r1, r2, r3)) :
  Calls Try.prog 29 #[.agg #[.int .i64 a0_0, .int .i64 a0_1, .string a0_2, .slice A0_3 l0_3.length c0_3]] w fun e w' => e = .returned (.tuple #[.int .i64 r1, .int .i64 r2, .int .i64 r3]) ∧ Below w.heap.size w w' := by
 have hu26 := Try.underlying26; have HR0_3 := Aside0.mk hr0_3; have HC0_3 := Aside0.mk hc0_3; clear hr0_3 hc0_3; have HB := Aside0.mk (Below.refl w.heap.size w); have H : ((tree_IsFormed.f k a0_0 a0_1 a0_2 l0_3).bind fun t241 => (if t241 = true then ((tree_count.f k a0_0 a0_1 a0_2 l0_3).bind fun bt242 => (some (bt242.1, bt242.2, 0))) else (some (0, 0, 4)))) = some (r1, r2, r3) := h; clear h; replace H := zo H; obtain ⟨t241, A2, H⟩ := H; by_cases c3 : t241 = true
 ·subst c3; rw [if_pos rfl] at H; replace H := Option.bind_eq_some_iff.mp H; obtain ⟨⟨t242, t243⟩, A40, H⟩ := H; replace H : (some (t242, t243, 0)) = some (r1, r2, r3) := H; have A4 := Aside0.mk A40; clear A40; simp only [Option.some.injEq, Prod.mk.injEq] at H; obtain ⟨rfl, rfl, rfl⟩ := H; go_enter Try.func29, Try.ntmps29
  go_wp2_with (first | ((with_reducible refine zD 1 rfl ?_); refine zx 1 #[.int .i64 a0_0, .int .i64 a0_1, .string a0_2, .slice A0_3 l0_3.length c0_3] 26 ?_; intro gb240 hg w5 hbox hb; have BK240 := Aside0.mk (hbox); have GW240 := (zq hg : Aside0 (w.heap.size ≤ gb240)); have GE240 := GW240; replace HB := (zB hb); clear hb hbox hg; obtain ⟨hcz6_0, hcz6_1, hcz6_2, hcz6_3⟩ := zc4 BK240; obtain ⟨hfz6_0, hfz6_1, hfz6_2, hfz6_3⟩ := zz4 BK240) | ((with_reducible refine zG 30 rfl ?_); refine zg 8 Try.func30 ((tree_IsFormed.calls k a0_0 a0_1 a0_2 _ _ l0_3 true _ ?side1 ?side2 A2.out).mono ?_); (case side1 => exact zC HR0_3); (case side2 => exact HC0_3.out); rintro e w7 ⟨rfl, hb⟩; refine ⟨_, rfl, ?_⟩; replace BK240 := (zK BK240 hb); replace HB := (zB hb); (try clear hb); (try clear hb2); (try clear hk); (try clear hi); obtain ⟨hcz8_0, hcz8_1, hcz8_2, hcz8_3⟩ := zc4 BK240; obtain ⟨hfz8_0, hfz8_1, hfz8_2, hfz8_3⟩ := zz4 BK240) | ((with_reducible refine zG 64 rfl ?_); refine zg 12 Try.func64 ((tree_count.calls k a0_0 a0_1 a0_2 _ _ l0_3 t242 t243 _ ?side1 ?side2 A4.out).mono ?_); (case side1 => exact zC HR0_3); (case side2 => exact HC0_3.out); rintro e w9 ⟨rfl, hb⟩; refine ⟨_, rfl, ?_⟩; replace BK240 := (zK BK240 hb); replace HB := (zB hb); (try clear hb); (try clear hb2); (try clear hk); (try clear hi)))
  go_ret3
  exact ⟨zr, zb⟩
 ·replace c3 := Bool.eq_false_iff.mpr c3; subst c3; replace H := zf H; simp only [Option.some.injEq, Prod.mk.injEq] at H; obtain ⟨rfl, rfl, rfl⟩ := H; go_enter Try.func29, Try.ntmps29
  go_wp2_with (first | ((with_reducible refine zD 1 rfl ?_); refine zx 1 #[.int .i64 a0_0, .int .i64 a0_1, .string a0_2, .slice A0_3 l0_3.length c0_3] 26 ?_; intro gb240 hg w10 hbox hb; have BK240 := Aside0.mk (hbox); have GW240 := (zq hg : Aside0 (w.heap.size ≤ gb240)); have GE240 := GW240; replace HB := (zB hb); clear hb hbox hg; obtain ⟨hcz11_0, hcz11_1, hcz11_2, hcz11_3⟩ := zc4 BK240; obtain ⟨hfz11_0, hfz11_1, hfz11_2, hfz11_3⟩ := zz4 BK240) | ((with_reducible refine zG 30 rfl ?_); refine zg 8 Try.func30 ((tree_IsFormed.calls k a0_0 a0_1 a0_2 _ _ l0_3 false _ ?side1 ?side2 A2.out).mono ?_); (case side1 => exact zC HR0_3); (case side2 => exact HC0_3.out); rintro e w12 ⟨rfl, hb⟩; refine ⟨_, rfl, ?_⟩; replace BK240 := (zK BK240 hb); replace HB := (zB hb); (try clear hb); (try clear hb2); (try clear hk); (try clear hi)))
  go_ret3
  exact ⟨zr, zb⟩

/-! ### marginalialaw05_leaf: function 42 -/
def marginalialaw05_leaf.f (k : Nat) (a0 : ByteArray) : Option (Int × Int × ByteArray × (List (S26))) := (marginaliaref03_Next.f k a0 0).bind fun bt245 => (some (1, bt245.1, bt245.2, ([] : List (S26))))
set_option maxHeartbeats 8000000 in
set_option maxRecDepth 100000 in
theorem marginalialaw05_leaf.calls (k : Nat) (a0 : ByteArray) (r1 : Int) (r2 : Int) (r3 : ByteArray) (r4 : List (S26)) (w : World) (h : marginalialaw05_leaf.f k a0 = some (r1, r2, r3, r4)) :
  Calls Try.prog 42 #[.string a0] w fun e w' => ∃ v3_ : Value, e = .returned (.agg #[.int .i64 r1, .int .i64 r2, .string r3, v3_]) ∧ Kd.R k26 26 w' w.heap.size (fun _ => True) v3_ r4 ∧ Below w.heap.size w w' := by
 have hu26 := Try.underlying26; have HB := Aside0.mk (Below.refl w.heap.size w); have H : ((marginaliaref03_Next.f k a0 0).bind fun bt245 => (some (1, bt245.1, bt245.2, ([] : List (S26))))) = some (r1, r2, r3, r4) := h; clear h; replace H := Option.bind_eq_some_iff.mp H; obtain ⟨⟨t245, t246⟩, A20, H⟩ := H; replace H : (some (1, t245, t246, ([] : List (S26)))) = some (r1, r2, r3, r4) := H; have A2 := Aside0.mk A20; clear A20; simp only [Option.some.injEq, Prod.mk.injEq] at H; obtain ⟨rfl, rfl, rfl, rfl⟩ := H; go_enter Try.func42, Try.ntmps42
 go_wp2_with (first | ((with_reducible refine zD 2 rfl ?_); refine zx 2 #[.int .i64 0, .int .i64 0, .string (⟨#[]⟩ : ByteArray), .slice none 0 0] 26 ?_; intro gb244 hg w3 hbox hb; have BK244 := Aside0.mk (hbox); have GW244 := (zq hg : Aside0 (w.heap.size ≤ gb244)); have GE244 := GW244; replace HB := (zB hb); clear hb hbox hg) | ((with_reducible refine zG 75 rfl ?_); refine zg 4 Try.func75 ((marginaliaref03_Next.calls k a0 0 t245 t246 _ A2.out).mono ?_); rintro e w4 ⟨rfl, hb⟩; refine ⟨_, rfl, ?_⟩; replace BK244 := (zK BK244 hb); replace HB := (zB hb); (try clear hb); (try clear hb2); (try clear hk); (try clear hi); obtain ⟨hcz5_0, hcz5_1, hcz5_2, hcz5_3⟩ := zc4 BK244; obtain ⟨hfz5_0, hfz5_1, hfz5_2, hfz5_3⟩ := zz4 BK244))
 refine bodyPost_ret (results_cell_row rfl _ _ gb244 26 #[.int .i64 1, .int .i64 t245, .string t246, .slice none 0 0] (0, 0) _ rfl zw Try.underlying26 rfl (by kernel_rfl)) rfl ?_; exact ⟨_, zr, by first | exact Kd.R_nil _ _ _ _ _ | exact Kd.N_nil _ _ _ _ _ | exact Kd.V_nil _ _ _ _ _ | exact Kd.Q_nil _ _ _ _ _ | exact Kd.S_nil _ _ _ _ _, zb⟩

end Go.Proofs.Ytnafnieocpkkhaa.P

namespace Go.Proofs.Ytnafnieocpkkhaa.P
open Go.RowKit Go.Proofs.YtnafnieocpkkhaaW.PrintWords Go.Proofs.YtnafnieocpkkhaaW.PrintLast Go.Proofs.YtnafnieocpkkhaaW.PrintMore
attribute [local go_sem] max2_int min2_int max_two min_two max_three min_three max_four min_four
set_option linter.unusedVariables false
set_option linter.unusedSimpArgs false

def marginaliaref05_Leaves.kids (g : S26 → List (S23) → Option (List (S23))) : List (S26) → List (S23) → Option (List (S23))
 | [], l => some l
 | x :: r, l => (g x l).bind fun u => marginaliaref05_Leaves.kids g r u
def marginaliaref05_Leaves.go : Nat → S26 → List (S23) → Option (List (S23))
 | 0, _, _ => none
 | m + 1, n, l => if n.f0 = 1 then (if l.length < 1000000000000 then some (l ++ [n.f1]) else none) else marginaliaref05_Leaves.kids (marginaliaref05_Leaves.go m) n.f2 l
def marginaliaref05_Leaves.f (k : Nat) (a0_0 : Int) (a0_1 : Int) (a0_2 : ByteArray) (l0_3 : List (S26)) : Option (List (S23)) := marginaliaref05_Leaves.go k ⟨a0_0, ⟨a0_1, a0_2⟩, l0_3⟩ []
/-- All but the row that is appended to lies as it lay; that row is the old one or a new one. -/
def marginaliaref05_Leaves.Fr (v v' : Value) (W W' : World) : Prop := W.heap.size ≤ W'.heap.size ∧ (∀ k, k < W.heap.size → some k ≠ v.ownBlock → W'.heap[k]? = W.heap[k]?) ∧ (v'.ownBlock = v.ownBlock ∨ ∃ b, v'.ownBlock = some b ∧ W.heap.size ≤ b)
theorem marginaliaref05_Leaves.Fr.refl (v : Value) (W : World) : marginaliaref05_Leaves.Fr v v W W := ⟨Nat.le_refl _, fun _ _ _ => rfl, .inl rfl⟩
theorem marginaliaref05_Leaves.Fr.trans {v v1 v2 : Value} {W W1 W2 : World} (h : marginaliaref05_Leaves.Fr v v1 W W1) (h2 : marginaliaref05_Leaves.Fr v1 v2 W1 W2) : marginaliaref05_Leaves.Fr v v2 W W2 := by
 refine ⟨Nat.le_trans h.1 h2.1, fun k hk hn => ?_, ?_⟩
 ·refine (h2.2.1 k (Nat.lt_of_lt_of_le hk h.1) ?_).trans (h.2.1 k hk hn)
  rcases h.2.2 with e | ⟨b, e, hb⟩
  ·rw [e]; exact hn
  ·rw [e]; intro q; injection q with q; omega
 ·rcases h2.2.2 with e | ⟨b, e, hb⟩
  ·rw [e]; exact h.2.2
  ·exact .inr ⟨b, e, Nat.le_trans h.1 hb⟩
theorem marginaliaref05_Leaves.Fr.alloc {v v' : Value} {W W' : World} (o : Obj) (h : marginaliaref05_Leaves.Fr v v' (W.alloc o) W') : marginaliaref05_Leaves.Fr v v' W W' := by
 have hs : (W.alloc o).heap.size = W.heap.size + 1 := (by simp)
 refine ⟨by have := h.1; omega, fun k hk hn => (h.2.1 k (by omega) hn).trans (Below.heap_alloc W o k hk), ?_⟩
 rcases h.2.2 with e | ⟨b, e, hb⟩
 ·exact .inl e
 ·exact .inr ⟨b, e, by omega⟩
theorem marginaliaref05_Leaves.Fr.grown {v v' : Value} {W W' : World} (hg : W.grownBy W' v.ownBlock) (hat : v'.ownBlock = v.ownBlock ∨ ∃ b, v'.ownBlock = some b ∧ W.heap.size ≤ b) (hs : W.heap.size ≤ W'.heap.size) : marginaliaref05_Leaves.Fr v v' W W' :=
 ⟨hs, fun k hk hn => hg.block k hk hn, hat⟩
theorem marginaliaref05_Leaves.Fr.blk {v v' : Value} {W W' : World} {g : Nat} {o : Obj} (h : marginaliaref05_Leaves.Fr v v' W W') (hb : W.heap[g]? = some o) (hn : some g ≠ v.ownBlock) : W'.heap[g]? = some o := (h.2.1 g (blk_lt hb) hn).trans hb
/-- What gather leaves: a row of its own, what it was handed and the leaves; all that lay below w0 is as it was. -/
def marginaliaref05_Leaves.Holds (w0 : World) (m : Nat) : Prop := ∀ (n : S26) (A : Option Addr) (cc : Nat) (l : List (S23)) (v : Value) (r : List (S23)) (W : World), n.f2.length ≤ cc → Kd.C k26 w0 A n.f2.length n.f2 → Below w0.heap.size w0 W → Kd.R k23 23 W w0.heap.size (fun _ => True) v l → marginaliaref05_Leaves.go m n l = some r →
 Calls Try.prog 68 #[.agg #[.int .i64 n.f0, .int .i64 n.f1.f0, .string n.f1.f1, .slice A n.f2.length cc], v] W fun e W' => ∃ v', e = .returned v' ∧ Kd.R k23 23 W' w0.heap.size (fun _ => True) v' r ∧ Below w0.heap.size w0 W' ∧ marginaliaref05_Leaves.Fr v v' W W'
set_option maxHeartbeats 8000000 in
set_option maxRecDepth 100000 in
theorem marginaliaref05_Leaves.ok (w0 : World) : ∀ m, marginaliaref05_Leaves.Holds w0 m
 | 0 => by intro n A cc l v r W _ _ _ _ h; simp [marginaliaref05_Leaves.go] at h
 | m + 1 => by
  have IH := marginaliaref05_Leaves.ok w0 m; intro n A cc l v r W hcc hC hB hv h; have hu := Try.underlying26; have hu2 := Try.underlying23; have HC := Aside0.mk hC; have HIH := Aside0.mk IH; have HBW := Aside0.mk hB; have HO := Aside0.mk hv
  have hlt : ∀ k, v.ownBlock = some k → k < W.heap.size := fun k hk => Kd.R_lt hv k hk
  have hbv : some W.heap.size ≠ v.ownBlock := fun q => absurd (hlt _ q.symm) (by omega)
  have HBV := Aside0.mk hbv
  obtain ⟨w1, hw1⟩ : ∃ w1, w1 = W.alloc (.cells #[.int .i64 n.f0, .int .i64 n.f1.f0, .string n.f1.f1, .slice A n.f2.length cc] 26) := ⟨_, rfl⟩
  have hfr0 : ∀ {v'} {W'}, marginaliaref05_Leaves.Fr v v' w1 W' → marginaliaref05_Leaves.Fr v v' W W' := fun h => marginaliaref05_Leaves.Fr.alloc _ (hw1 ▸ h)
  have HF0 := Aside0.mk (@hfr0)
  have BK : Aside0 (w1.heap[W.heap.size]? = some (.cells #[.int .i64 n.f0, .int .i64 n.f1.f0, .string n.f1.f1, .slice A n.f2.length cc] 26 (0, 0))) := ⟨by rw [hw1]; exact blk_new _ _⟩
  have HV : Aside0 (Kd.R k23 23 w1 w0.heap.size (fun _ => True) v l) := ⟨by rw [hw1]; exact Kd.R_alloc hv _⟩
  have HB : Aside0 (Below w0.heap.size w0 w1) := ⟨by rw [hw1]; exact below_alloc hB _⟩
  have HW1 := Aside0.mk hw1; simp only [marginaliaref05_Leaves.go] at h; clear hC hB IH hv hlt hbv hfr0 hw1; by_cases c0 : n.f0 = 1
  ·rw [if_pos c0] at h; have d1 : (n.f0 == 1) = true := beq_iff_eq.mpr c0; by_cases c2 : l.length < 1000000000000
   ·rw [if_pos c2] at h; obtain rfl := Option.some.inj h; have HL := Aside0.mk c2; clear h c2 c0; go_enter Try.func68, Try.ntmps68
    go_upto_region 1 with fail
    rw [← HW1.out]; obtain ⟨p0, p1, p2, p3⟩ := zc4 BK
    go_wp2_with (first | ((with_reducible refine gate_builtin (b := .append) (xs := #[.tmp 10, .tmp 13]) rfl ?_); at_builtin; refine Kd.R_append k23 (w0 := w0) w0.heap.size rfl (.tmp 10) (.tmp 13) 51 23 (.agg #[(.int .i64 0), (.string ⟨#[]⟩)]) 24 rfl Try.underlying51 info23 rfl (by decide) (by omega) v l n.f1 [.int .i64 n.f1.f0, .string n.f1.f1] (fun _ => True) (fun _ => False) rfl (by first | (go_simp; done) | (go_simp; rfl)) ?aP (fun _ hk => hk.elim) ?aF ?aO ?aB ?aS ?aL ?_; (case aP => exact k23_mkM _ _ _ n.f1); (case aF => exact fun _ _ => trivial); (case aO => exact HV.out); (case aB => exact HB.out); (case aS => exact below_size HB.out); (case aL => have := HL.out; omega); intro v1 w2 ho hb hg hat; have HO2 := Aside0.mk ho; have HB2 := Aside0.mk hb; have HF2 := Aside0.mk (HF0.out (marginaliaref05_Leaves.Fr.grown hg hat (hg.size))); clear ho hb hg hat))
    go_ret; exact ⟨_, rfl, HO2.out, HB2.out, HF2.out⟩
   ·rw [if_neg c2] at h; cases h
  ·rw [if_neg c0] at h; have d1 : (n.f0 == 1) = false := beq_eq_false_iff_ne.mpr c0; have HH := Aside0.mk h; clear h c0; go_enter Try.func68, Try.ntmps68
   go_upto_region 1 with fail
   rw [← HW1.out]; have HF := Aside0.mk (marginaliaref05_Leaves.Fr.refl v w1); have hmax : n.f2.length ≤ 9223372036854775807 := HC.out.2.1; have HL0 := Aside0.mk (blk_lt BK.out); obtain ⟨p0, p1, p2, p3⟩ := zc4 BK; go_wp2_with fail; clear p0 p1 p2 p3
   go_loopg [5, 6] n.f2.length (fun kq v5 v6 w' => ∃ (i : Nat) (ls : List (S23)), v6 = .int .i64 (i : Int) ∧ Aside0 (i + kq = n.f2.length) ∧ Aside0 (marginaliaref05_Leaves.kids (marginaliaref05_Leaves.go m) (n.f2.drop i) ls = some r) ∧ Aside0 (Kd.R k23 23 w' w0.heap.size (fun _ => True) v5 ls) ∧ Aside0 (Below w0.heap.size w0 w') ∧ Aside0 (marginaliaref05_Leaves.Fr v v5 w1 w'))
   case atStart => exact ⟨0, l, rfl, ⟨by omega⟩, HH, HV, HB, HF⟩
   case round =>
    clear HH HB HF HV; obtain ⟨i, ls, rfl, HK, HH, HV, HB, HF⟩ := hrel; have BKr := Aside0.mk (HF.out.blk BK.out HBV.out); obtain ⟨p0, p1, p2, p3⟩ := zc4 BKr; by_cases hlt : i < n.f2.length
    ·have hd1 : decide ((i : Int) < (n.f2.length : Int)) = true := decide_eq_true (by omega); have H := HH.out; rw [List.drop_eq_getElem_cons hlt] at H; simp only [marginaliaref05_Leaves.kids] at H; replace H := zo H; obtain ⟨u, hu1, H⟩ := H; have HH2 := Aside0.mk H
     have hrd : rd_T26 n.f2 (i : Int) = n.f2[i] := (by simp [rd_T26, hlt])
     obtain ⟨ad, A3, c3, e, hx0, hx1, hx2, hx3, hl3, hC3⟩ := at_T26 HC.out (i : Int) (by omega) (by omega); rw [hrd] at hx0 hx1 hx2 hx3 hl3 hC3; rw [Int.toNat_natCast] at hx0 hx1 hx2 hx3
     cases e
     replace hx0 := zh HB hx0; replace hx1 := zh HB hx1; replace hx2 := zh HB hx2; replace hx3 := zh HB hx3; clear hrd HH H; generalize n.f2[i] = x at *; have HCall := Aside0.mk (HIH.out x A3 c3 ls u5 u wr hl3 hC3 HB.out HV.out hu1.out); clear hl3 hC3 hu1
     cases gk with
     | zero => exact absurd hlt (by have := HK.out; omega)
     | succ kq' =>
     go_wp2_with (go_at_call 68; refine HCall.out.mono ?_; rintro e w5 ⟨v', rfl, h1, h2, h3⟩; have HV2 := Aside0.mk h1; have HB2 := Aside0.mk h2; have HF2 := Aside0.mk (HF.out.trans h3); clear h1 h2 h3)
     go_roundg kq'
     case measure => omega
     case rel => exact ⟨i + 1, u, by go_num, ⟨by have := HK.out; omega⟩, HH2, HV2, HB2, HF2⟩
    ·have hd1 : decide ((i : Int) < (n.f2.length : Int)) = false := decide_eq_false (by omega); have H := HH.out; rw [List.drop_of_length_le (by have := HK.out; omega)] at H; simp only [marginaliaref05_Leaves.kids] at H; obtain rfl := Option.some.inj H; clear H HH; go_wp2_with fail; go_ret; exact ⟨_, rfl, HV.out, HB.out, HF0.out HF.out⟩
set_option maxHeartbeats 8000000 in
set_option maxRecDepth 100000 in
theorem marginaliaref05_Leaves.calls (k : Nat) (a0_0 : Int) (a0_1 : Int) (a0_2 : ByteArray) (A0_3 : Option Addr) (c0_3 : Nat) (l0_3 : List (S26)) (r : List (S23)) (w : World) (hr0_3 : Kd.C k26 w A0_3 l0_3.length l0_3) (hc0_3 : l0_3.length ≤ c0_3) (h : marginaliaref05_Leaves.f k a0_0 a0_1 a0_2 l0_3 = some r) :
  Calls Try.prog 34 #[.agg #[.int .i64 a0_0, .int .i64 a0_1, .string a0_2, .slice A0_3 l0_3.length c0_3]] w fun e w' => ∃ v0_ : Value, e = .returned v0_ ∧ Kd.R k23 23 w' w.heap.size (fun _ => True) v0_ r ∧ Below w.heap.size w w' := by
 have hu := Try.underlying26; have HC := Aside0.mk hr0_3; have HCall := Aside0.mk (fun (W : World) (hB : Below w.heap.size w W) => marginaliaref05_Leaves.ok w k ⟨a0_0, ⟨a0_1, a0_2⟩, l0_3⟩ A0_3 c0_3 [] (.slice none 0 0) r W hc0_3 hr0_3 hB (Kd.R_nil _ _ _ _ _) h); clear hr0_3 h; go_enter Try.func34, Try.ntmps34
 go_wp2_with (go_at_call 68; refine (HCall.out _ (below_alloc (Below.refl _ _) _)).mono ?_; rintro e w5 ⟨v', rfl, h1, h2, h3⟩; have HV2 := Aside0.mk h1; have HB2 := Aside0.mk h2; clear h1 h2 h3)
 go_ret; exact ⟨_, rfl, HV2.out, HB2.out⟩

end Go.Proofs.Ytnafnieocpkkhaa.P

namespace Go.Proofs.Ytnafnieocpkkhaa.P
open Go.RowKit Go.Proofs.YtnafnieocpkkhaaW.PrintWords Go.Proofs.YtnafnieocpkkhaaW.PrintLast Go.Proofs.YtnafnieocpkkhaaW.PrintMore
attribute [local go_sem] max2_int min2_int max_two min_two max_three min_three max_four min_four
set_option linter.unusedVariables false
set_option linter.unusedSimpArgs false

def tree_All.kids (g : S26 → List Int → List (List Int) → Option (List (List Int))) : List (S26) → Nat → List Int → List (List Int) → Option (List (List Int))
 | [], _, _, out => some out
 | x :: r, i, here, out => (g x (here ++ [(i : Int)]) out).bind fun o => tree_All.kids g r (i + 1) here o
def tree_All.go (kind : Int) : Nat → S26 → List Int → List (List Int) → Option (List (List Int))
 | 0, _, _, _ => none
 | m + 1, n, here, out => if here.length < 1000000 then (if out.length < 1000000 then tree_All.kids (tree_All.go kind m) n.f2 0 here (if n.f0 = kind then out ++ [here] else out) else none) else none
def tree_All.f (k : Nat) (a0_0 : Int) (a0_1 : Int) (a0_2 : ByteArray) (l0_3 : List (S26)) (a1 : Int) : Option (List (List Int) × Int) :=
 (tree_IsFormed.f k a0_0 a0_1 a0_2 l0_3).bind fun b => if b = true then (tree_All.go a1 k ⟨a0_0, ⟨a0_1, a0_2⟩, l0_3⟩ [] []).bind fun l => some (l, 0) else some ([], 4)
abbrev tree_All.RI (w : World) (base : Nat) (v : Value) (xs : List Int) : Prop := Kd.R (Kd.int .i64) 3 w base (fun _ => True) v xs
abbrev tree_All.RR (w : World) (base : Nat) (v : Value) (xs : List (List Int)) : Prop := Kd.R (Kd.slice 3 (Kd.int .i64)) 30 w base (fun _ => True) v xs
/-- What may have changed: block g, rows of []int's, and what is new. -/
def tree_All.Fr (g : Nat) (w w' : World) : Prop := w.heap.size ≤ w'.heap.size ∧ ∀ k, k < w.heap.size → k ≠ g → (∀ cs, w.heap[k]? ≠ some (.cells cs 30 (0, 0))) → w'.heap[k]? = w.heap[k]?
theorem tree_All.Fr.refl (g : Nat) (w : World) : tree_All.Fr g w w := ⟨Nat.le_refl _, fun _ _ _ _ => rfl⟩
theorem tree_All.Fr.trans {g : Nat} {w w1 w2 : World} (h : tree_All.Fr g w w1) (h2 : tree_All.Fr g w1 w2) : tree_All.Fr g w w2 :=
 ⟨Nat.le_trans h.1 h2.1, fun k hk hg ht => by
  have e := h.2 k hk hg ht
  exact (h2.2 k (Nat.lt_of_lt_of_le hk h.1) hg (fun cs hc => ht cs (by rw [← e]; exact hc))).trans e⟩
theorem tree_All.Fr.below {g : Nat} {w w1 : World} (h : Below w.heap.size w w1) : tree_All.Fr g w w1 := ⟨h.size, fun k hk _ _ => h.block k hk⟩
theorem tree_All.Fr.blk {g b : Nat} {w w1 : World} {cs : Array Value} {t : Nat} {fz : Nat × Nat} (h : tree_All.Fr g w w1) (hb : w.heap[b]? = some (.cells cs t fz)) (ht : t ≠ 30) (hg : b ≠ g) : w1.heap[b]? = some (.cells cs t fz) :=
 (h.2 b (blk_lt hb) hg (fun cs' hc => by rw [hb] at hc; injection hc with hc; injection hc with _ h2; exact ht h2)).trans hb
theorem tree_All.Fr.grown {g : Nat} {w w1 : World} {base : Nat} {v : Value} {xs : List (List Int)} (hr : tree_All.RR w base v xs) (h : w.grownBy w1 v.ownBlock) : tree_All.Fr g w w1 :=
 ⟨h.size, fun k hk _ ht => h.block k hk (fun e => by
  obtain ⟨inner, ho⟩ := Kd.R_own hr; obtain ⟨cells, hc⟩ := own_typed ho k e.symm
  exact ht cells hc)⟩
theorem tree_All.Fr.set {g : Nat} {w w1 : World} (h : tree_All.Fr g w w1) (j : Nat) (u : Value) : tree_All.Fr g w (w1.setCell ⟨g, j, none⟩ u) :=
 ⟨by simpa [World.setCell] using h.1, fun k hk hg ht => (Below.heap_setCell w1 ⟨g, j, none⟩ u k hg).trans (h.2 k hk hg ht)⟩
/-- A row of ints stays. -/
theorem tree_All.RI.fr {g base : Nat} {w w1 : World} {v : Value} {xs : List Int} {cs : Array Value} (hr : tree_All.RI w base v xs) (h : tree_All.Fr g w w1) (hg : w.heap[g]? = some (.cells cs 35 (0, 0))) : tree_All.RI w1 base v xs :=
 Kd.R_mono (Kd.R_step (Kd.R_bound hr) (fun k hk hlt => by
  obtain ⟨_, _, _, q, hq, cells, hc⟩ := hk; have hq3 : q = 3 := List.mem_singleton.1 hq; subst hq3; refine h.2 k hlt (fun e => ?_) (fun cs' hc' => ?_)
  ·subst e; rw [hc] at hg; injection hg with hg; injection hg with _ h2; exact absurd h2 (by decide)
  ·rw [hc] at hc'; injection hc' with hc'; injection hc' with _ h2; exact absurd h2 (by decide))) (fun _ hk => hk.1)
theorem tree_All.infoInt : (Try.prog.info? 3).map (fun i => (i.zero, i.size, i.bytes)) = some (some (.int .i64 0), 1, 8) := by kernel_rfl
theorem tree_All.infoRow : (Try.prog.info? 30).map (fun i => (i.zero, i.size, i.bytes)) = some (some (.slice none 0 0), 1, 24) := by kernel_rfl
/-- slices.Clone of a row of ints of the call's own. -/
theorem tree_All.clone (w : World) (base : Nat) (v : Value) (xs : List Int) (hl : xs.length ≤ 1000000) (h : tree_All.RI w base v xs) :
  Calls Try.prog 57 #[v] w fun e w' => ∃ v', e = .returned v' ∧ tree_All.RI w' w.heap.size v' xs ∧ Below w.heap.size w w' := by
 obtain ⟨A, c, rfl, hc, hC⟩ := Kd.R_reads h
 cases A with
 | none =>
  have h0 : xs = [] := by
   rcases Nat.eq_zero_or_pos xs.length with h0 | h0
   ·exact List.length_eq_zero_iff.mp h0
   ·obtain ⟨ad, e, _⟩ := Kd.at_int hC 0 (by omega) (by omega)
    cases e
  subst h0; refine (Try.slices_Clone_int_nil _ _ w).mono ?_; rintro e w' ⟨rfl, rfl⟩; exact ⟨_, rfl, Kd.R_nil _ _ _ _ _, Below.refl _ _⟩
 | some ad =>
  by_cases h0 : xs.length = 0
  ·have h1 := List.length_eq_zero_iff.mp h0; subst h1; refine (Try.slices_Clone_int_zero ad c w).mono ?_; rintro e w' ⟨v', rfl, ho, _, hb⟩; exact ⟨_, rfl, Kd.R_of_own (by simpa [encs] using ho) (fun _ _ => trivial), hb⟩
  ·obtain ⟨g, rfl⟩ := Kd.R_head h; refine (Try.slices_Clone_int g 0 xs.length c xs w (Nat.le_refl _) (by omega) (fun j hj => ?_)).mono ?_
   ·obtain ⟨ad', e, hx⟩ := Kd.at_int hC (j : Int) (by omega) (by omega)
    cases e
    rw [Int.toNat_natCast] at hx; rw [show (⟨g, 0, none⟩ : Addr).add j = ⟨g, j, none⟩ by unfold Addr.add; simp; try omega] at hx
    simpa [rd] using hx
   ·rintro e w' ⟨v', rfl, ho, _, hb⟩; rw [List.take_length] at ho; exact ⟨_, rfl, Kd.R_of_own (by simpa [encs] using ho) (fun _ _ => trivial), hb⟩
/-- append to a row of ints that is full. -/
theorem tree_All.grow_step {ops : Array Oper} {o : Oper} {a : Act} {K : Act → World → Prop} {Q : Exit → Act → World → Prop} {E : Prop} {W : World} {base : Nat} (hgd : o.guard = none) (s x : Operand) (hop : o.op = .call { callee := .builtin .append, args := #[s, x], argTypes := #[30, 30] })
  (A : Option Addr) (c : Nat) (xs : List Int) (i : Int) (hR : tree_All.RI W base (.slice A xs.length c) xs) (hs : a.eval s = .slice A xs.length xs.length) (bn : Nat) (hbn : bn = W.heap.size) (hx : a.eval x = .slice (some ⟨bn, 0, none⟩) 1 1) (hl : xs.length ≤ 1000000) (hbase : base ≤ W.heap.size)
  (hK : ∀ v1 w1, tree_All.RI w1 base v1 (xs ++ [i]) → Below W.heap.size W w1 → K (a.put o.dst v1) w1) :
  if Region.wanted o (yielded ops a.tmps) = true then Oper.wp Try.prog o a (W.alloc (.cells #[.int .i64 i] 3)) K Q else E := by
 subst hbn; obtain ⟨i0, hi, hz0, hz1, hz2⟩ := info_parts tree_All.infoInt; obtain ⟨A', c', e, hc, hC⟩ := Kd.R_reads hR; injection e with e1 _ e3; subst e1 e3; have hB := below_alloc (Below.refl W.heap.size W) (.cells #[.int .i64 i] 3); refine step_append_grows (w := W.alloc (.cells #[.int .i64 i] 3)) hgd s x 30 hop 3 i0 (.int .i64 0) 1 8 Try.underlying30 hi hz0 hz1 hz2 rfl (by decide) A xs.length xs.length (xs.map (Value.int .i64)) hs (fun e => ?_) (by simp) (fun b e j u hj => ?_) ⟨W.heap.size, 0, none⟩ 1 1 [.int .i64 i] hx rfl (fun j u hj => ?_) (fun u hu => ?_) (by omega) (by unfold maxLen; omega) (by omega) (fun v1 w1 ho hg => hK v1 w1 ?_ ?_)
 ·subst e
  rcases Nat.eq_zero_or_pos xs.length with h0 | h0
  ·exact ⟨h0, h0⟩
  ·obtain ⟨ad, e, _⟩ := Kd.at_int hC 0 (by omega) (by omega)
   cases e
 ·subst e
  have hj' : j < xs.length := by
   have := (List.getElem?_eq_some_iff.1 hj).1
   simpa using this
  obtain ⟨ad', e, hx2⟩ := Kd.at_int hC (j : Int) (by omega) (by omega)
  cases e
  rw [Int.toNat_natCast] at hx2; rw [List.getElem?_map, List.getElem?_eq_getElem hj'] at hj; simp only [Option.map_some, Option.some.injEq] at hj; subst hj; refine (hB.cell (World.block_lt_of_cell? W _ hx2)).trans (hx2.trans ?_)
  simp [rd, hj']
 ·match j, hj with
  | 0, hj =>
   simp only [List.getElem?_cons_zero, Option.some.injEq] at hj; subst hj; rw [show (⟨W.heap.size, 0, none⟩ : Addr).add 0 = ⟨W.heap.size, 0, none⟩ from rfl, Lib.cell_of_heap (blk_new _ _)]; rfl
 ·rw [List.mem_singleton.1 hu]; rfl
 ·exact Kd.R_of_own (own_weaken (by simpa [encs] using ho) (Nat.le_trans hbase hB.size)) (fun _ _ => trivial)
 ·refine hB.trans ?_; exact ⟨hg.os, hg.tape, hg.output, hg.size, fun k hk => hg.block k (Nat.lt_of_lt_of_le hk hB.size) (by simp)⟩
/-- What the literal in All does at a Node: the rows in block g grow. -/
def tree_All.Holds (w0 : World) (kind : Int) (g b3 b7 m : Nat) : Prop := ∀ (n : S26) (A : Option Addr) (cc : Nat) (here : List Int) (v2 : Value) (out : List (List Int)) (vo : Value) (r : List (List Int)) (w : World), n.f2.length ≤ cc → Kd.C k26 w0 A n.f2.length n.f2 → tree_All.RI w w0.heap.size v2 here →
 w.heap[g]? = some (.cells #[vo] 35 (0, 0)) → tree_All.RR w w0.heap.size vo out → w.heap[b3]? = some (.cells #[.int .i64 kind] 3 (0, 0)) → w.heap[b7]? = some (.cells #[(.func (.func 56) #[] #[.pointer (some ⟨b3, 0, none⟩), .pointer (some ⟨g, 0, none⟩), .pointer (some ⟨b7, 0, none⟩)])] 88 (0, 0)) → w0.heap.size ≤ g → b3 ≠ g → b7 ≠ g → Below w0.heap.size w0 w → tree_All.go kind m n here out = some r →
 Calls Try.prog 56 #[.agg #[.int .i64 n.f0, .int .i64 n.f1.f0, .string n.f1.f1, .slice A n.f2.length cc], v2, .pointer (some ⟨b3, 0, none⟩), .pointer (some ⟨g, 0, none⟩), .pointer (some ⟨b7, 0, none⟩)] w fun e w' => e = .returned (.tuple #[]) ∧ ∃ vo', w'.heap[g]? = some (.cells #[vo'] 35 (0, 0)) ∧ tree_All.RR w' w0.heap.size vo' r ∧ Below w0.heap.size w0 w' ∧ tree_All.Fr g w w'
set_option maxHeartbeats 16000000 in
set_option maxRecDepth 100000 in
theorem tree_All.walk_ok (w0 : World) (kind : Int) (g b3 b7 : Nat) : ∀ m, tree_All.Holds w0 kind g b3 b7 m := by
 have hu := Try.underlying26; intro m
 induction m with
 | zero =>
  intro n A cc here v2 out vo r w _ _ _ _ _ _ _ _ _ _ _ h
  simp [tree_All.go] at h
 | succ m ih =>
  intro n A cc here v2 out vo r w hcc hC hRI hG hRR h3 h7 hg n3 n7 hB h; rw [tree_All.go] at h; obtain ⟨hlh, h⟩ := Ut.ite_some h; obtain ⟨hlo, h⟩ := Ut.ite_some h; obtain ⟨A2, c2, e2, hc2, _⟩ := Kd.R_reads hRI; subst e2; have HC := Aside0.mk hC; have IH := Aside0.mk ih; have hmax : n.f2.length ≤ 9223372036854775807 := hC.2.1; have hgl := blk_lt hG; have HNG := Aside0.mk (And.intro hg (And.intro n3 n7)); have hA := below_alloc (Below.refl w.heap.size w) (.cells #[.int .i64 n.f0, .int .i64 n.f1.f0, .string n.f1.f1, .slice A n.f2.length cc] 26); have HB1 := Aside0.mk (below_alloc hB (.cells #[.int .i64 n.f0, .int .i64 n.f1.f0, .string n.f1.f1, .slice A n.f2.length cc] 26)); have HF1 := Aside0.mk (tree_All.Fr.below (g := g) hA); have HG1 := Aside0.mk (blk_alloc hG (.cells #[.int .i64 n.f0, .int .i64 n.f1.f0, .string n.f1.f1, .slice A n.f2.length cc] 26)); have HR1 := Aside0.mk (Kd.R_alloc hRR (.cells #[.int .i64 n.f0, .int .i64 n.f1.f0, .string n.f1.f1, .slice A n.f2.length cc] 26)); have HI1 := Aside0.mk (Kd.R_alloc hRI (.cells #[.int .i64 n.f0, .int .i64 n.f1.f0, .string n.f1.f1, .slice A n.f2.length cc] 26)); have H31 := Aside0.mk (blk_alloc h3 (.cells #[.int .i64 n.f0, .int .i64 n.f1.f0, .string n.f1.f1, .slice A n.f2.length cc] 26)); have H71 := Aside0.mk (blk_alloc h7 (.cells #[.int .i64 n.f0, .int .i64 n.f1.f0, .string n.f1.f1, .slice A n.f2.length cc] 26)); have HN1 := Aside0.mk (blk_new w (.cells #[.int .i64 n.f0, .int .i64 n.f1.f0, .string n.f1.f1, .slice A n.f2.length cc] 26)); have hsz := hB.size
  have hng : w.heap.size ≠ g := (by omega)
  have H := Aside0.mk h; clear hC ih hRI hG hRR h3 h7 hB hA n3 n7 h; go_enter Try.func56, Try.ntmps56; have e3 : (w.alloc (.cells #[.int .i64 n.f0, .int .i64 n.f1.f0, .string n.f1.f1, .slice A n.f2.length cc] 26)).cell? ⟨b3, 0, none⟩ = some (.int .i64 kind) := Lib.cell_of_heap H31.out 0
  go_upto_if 12 with fail
  go_cut [] (fun wc => ∃ (o : List (List Int)) (vp : Value), Aside0 (tree_All.kids (tree_All.go kind m) n.f2 0 here o = some r) ∧ Aside0 (wc.heap[w.heap.size]? = some (.cells #[.int .i64 n.f0, .int .i64 n.f1.f0, .string n.f1.f1, .slice A n.f2.length cc] 26 (0, 0))) ∧ Aside0 (wc.heap[g]? = some (.cells #[vp] 35 (0, 0))) ∧ Aside0 (tree_All.RR wc w0.heap.size vp o) ∧ Aside0 (tree_All.RI wc w0.heap.size (.slice A2 here.length c2) here) ∧ Aside0 (wc.heap[b3]? = some (.cells #[.int .i64 kind] 3 (0, 0))) ∧ Aside0 (wc.heap[b7]? = some (.cells #[(.func (.func 56) #[] #[.pointer (some ⟨b3, 0, none⟩), .pointer (some ⟨g, 0, none⟩), .pointer (some ⟨b7, 0, none⟩)])] 88 (0, 0))) ∧ Aside0 (Below w0.heap.size w0 wc) ∧ Aside0 (tree_All.Fr g w wc))
  case first =>
   have h := H.out; by_cases c : n.f0 = kind
   ·rw [if_pos c] at h; have HH := Aside0.mk h; have cb : (n.f0 == kind) = true := beq_iff_eq.mpr c; clear c h H; have eg : (w.alloc (.cells #[.int .i64 n.f0, .int .i64 n.f1.f0, .string n.f1.f1, .slice A n.f2.length cc] 26)).cell? ⟨g, 0, none⟩ = some vo := Lib.cell_of_heap HG1.out 0; have CL := Aside0.mk (tree_All.clone (w.alloc (.cells #[.int .i64 n.f0, .int .i64 n.f1.f0, .string n.f1.f1, .slice A n.f2.length cc] 26)).drew w0.heap.size (.slice A2 here.length c2) here (by omega) (Kd.R_drew HI1.out))
    have HO3 : ∀ w3, Below (w.alloc (.cells #[.int .i64 n.f0, .int .i64 n.f1.f0, .string n.f1.f1, .slice A n.f2.length cc] 26)).drew.heap.size (w.alloc (.cells #[.int .i64 n.f0, .int .i64 n.f1.f0, .string n.f1.f1, .slice A n.f2.length cc] 26)).drew w3 → tree_All.RR w3 w0.heap.size vo out := fun w3 hb => Kd.R_below (Kd.R_drew HR1.out) hb
    have HB3 : ∀ w3, Below (w.alloc (.cells #[.int .i64 n.f0, .int .i64 n.f1.f0, .string n.f1.f1, .slice A n.f2.length cc] 26)).drew.heap.size (w.alloc (.cells #[.int .i64 n.f0, .int .i64 n.f1.f0, .string n.f1.f1, .slice A n.f2.length cc] 26)).drew w3 → Below w0.heap.size w0 w3 := fun w3 hb => (below_drew1 HB1.out).trans (hb.mono (by have := HB1.out.size; have : (w.alloc (.cells #[.int .i64 n.f0, .int .i64 n.f1.f0, .string n.f1.f1, .slice A n.f2.length cc] 26)).drew.heap.size = (w.alloc (.cells #[.int .i64 n.f0, .int .i64 n.f1.f0, .string n.f1.f1, .slice A n.f2.length cc] 26)).heap.size := rfl; omega))
    have HG3 : ∀ w3, Below (w.alloc (.cells #[.int .i64 n.f0, .int .i64 n.f1.f0, .string n.f1.f1, .slice A n.f2.length cc] 26)).drew.heap.size (w.alloc (.cells #[.int .i64 n.f0, .int .i64 n.f1.f0, .string n.f1.f1, .slice A n.f2.length cc] 26)).drew w3 → w3.heap[g]? = some (.cells #[vo] 35 (0, 0)) := fun w3 hb => blk_below (blk_drew HG1.out) hb
    have HP3 : ∀ v3 w3, tree_All.RI w3 (w.alloc (.cells #[.int .i64 n.f0, .int .i64 n.f1.f0, .string n.f1.f1, .slice A n.f2.length cc] 26)).drew.heap.size v3 here → Kd.R (Kd.int .i64) 3 w3 w0.heap.size (fun k => some k ≠ vo.ownBlock) v3 here := fun v3 w3 hr => Kd.R_mono (Kd.R_lower (Kd.R_newR hr (Kd.R_drew HR1.out)) (by have := HB1.out.size; have : (w.alloc (.cells #[.int .i64 n.f0, .int .i64 n.f1.f0, .string n.f1.f1, .slice A n.f2.length cc] 26)).drew.heap.size = (w.alloc (.cells #[.int .i64 n.f0, .int .i64 n.f1.f0, .string n.f1.f1, .slice A n.f2.length cc] 26)).heap.size := rfl; omega)) (fun _ hk => hk.2)
    go_wp2_with fail
    go_region_law (first | (go_simp; go_at_call 57; refine CL.out.mono ?_; rintro e w3 ⟨v3, rfl, hr3, hb3⟩; obtain ⟨A3, c3, hv3, _, _⟩ := Kd.R_reads hr3; subst hv3; have hcg : w3.cell? ⟨g, 0, none⟩ = some vo := Lib.cell_of_heap (HG3 w3 hb3) 0; have hcg2 : (w3.alloc (.cells #[.slice A3 here.length c3] 30)).cell? ⟨g, 0, none⟩ = some vo := Lib.cell_of_heap (blk_alloc (HG3 w3 hb3) _) 0) | (refine Kd.R_append_step (Kd.slice 3 (Kd.int .i64)) w0.heap.size (w0 := w0) (by rfl) (.tmp 13) (.tmp 16) 35 30 (.slice none 0 0) 24 rfl Try.underlying35 tree_All.infoRow rfl (by decide) (by omega) vo out here [.slice A3 here.length c3] (fun _ => True) (fun k => some k ≠ vo.ownBlock) rfl rfl ⟨_, rfl, HP3 _ w3 hr3⟩ (fun k hk => ⟨trivial, hk⟩) (fun _ _ => trivial) (HO3 w3 hb3) (HB3 w3 hb3) (HB3 w3 hb3).size (by omega) ?_; intro v4 w4 hr4 hb4 hg4 hat4; obtain ⟨A4, c4, hv4, _, _⟩ := Kd.R_reads hr4; obtain ⟨n4, hn4⟩ : ∃ n, Aside0 (n = (out ++ [here]).length) := ⟨_, ⟨rfl⟩⟩; rw [← hn4.out] at hv4; subst hv4; have hst := blk_grown (HG3 w3 hb3) hg4 (Kd.R_ne (HO3 w3 hb3) (HG3 w3 hb3) (by decide)); have hct : w4.cell? ⟨g, 0, none⟩ = some vo := Lib.cell_of_heap hst 0; have hft := Lib.frozen_of_heap hst 0))
    all_goals
     have HG5 := Aside0.mk (blk_put (cs' := #[.slice A4 n4 c4]) hst 0 (.slice A4 n4 c4) rfl); have HO5 := Aside0.mk (Kd.R_set hr4 hst (by intro q hq e; subst e; revert hq; decide) 0 (.slice A4 n4 c4)); have HB5 := Aside0.mk (hb4.setCell (p := ⟨g, 0, none⟩) HNG.out.1 (.slice A4 n4 c4)); have HF51 := Aside0.mk (tree_All.Fr.set (tree_All.Fr.trans (tree_All.Fr.below (g := g) (show Below (w.alloc (.cells #[.int .i64 n.f0, .int .i64 n.f1.f0, .string n.f1.f1, .slice A n.f2.length cc] 26)).heap.size (w.alloc (.cells #[.int .i64 n.f0, .int .i64 n.f1.f0, .string n.f1.f1, .slice A n.f2.length cc] 26)) w3 from (below_drew1 (Below.refl _ _)).trans hb3)) (tree_All.Fr.grown (HO3 w3 hb3) hg4)) 0 (.slice A4 n4 c4)); have HF5 := Aside0.mk (tree_All.Fr.trans HF1.out HF51.out); have HI5 := Aside0.mk (tree_All.RI.fr HI1.out HF51.out HG1.out); have H35 := Aside0.mk (tree_All.Fr.blk HF51.out H31.out (by decide) HNG.out.2.1); have H75 := Aside0.mk (tree_All.Fr.blk HF51.out H71.out (by decide) HNG.out.2.2); have HN5 := Aside0.mk (tree_All.Fr.blk HF51.out HN1.out (by decide) hng)
     (try go_wp2_with fail)
     go_meet
     case rel => exact ⟨_, _, HH, HN5, HG5, HO5, HI5, H35, H75, HB5, HF5⟩
   ·rw [if_neg c] at h; have HH := Aside0.mk h; have cb : (n.f0 == kind) = false := beq_eq_false_iff_ne.mpr c; clear c h H; go_wp2_with fail
    go_meet
    case rel => exact ⟨_, _, HH, HN1, HG1, HR1, HI1, H31, H71, HB1, HF1⟩
  case rest =>
   clear HB1 HF1 HG1 HR1 HI1 H31 H71 HN1 H e3; obtain ⟨o0, vp0, HH, HN, HG, HR, HI, H3, H7, HB, HF⟩ := hcut; have z5 : wc.cell? ⟨w.heap.size, 3, none⟩ = some (.slice A n.f2.length cc) := Lib.cell_of_heap HN.out 3; go_wp2_with fail
   go_loopg [21] n.f2.length (fun kq v21 w' => ∃ (i : Nat) (o : List (List Int)) (vp : Value), v21 = .int .i64 (i : Int) ∧ Aside0 (i + kq = n.f2.length) ∧ Aside0 (tree_All.kids (tree_All.go kind m) (n.f2.drop i) i here o = some r) ∧ Aside0 (w'.heap[g]? = some (.cells #[vp] 35 (0, 0))) ∧ Aside0 (tree_All.RR w' w0.heap.size vp o) ∧ Aside0 (tree_All.RI w' w0.heap.size (.slice A2 here.length c2) here) ∧ Aside0 (w'.heap[b3]? = some (.cells #[.int .i64 kind] 3 (0, 0))) ∧ Aside0 (w'.heap[b7]? = some (.cells #[(.func (.func 56) #[] #[.pointer (some ⟨b3, 0, none⟩), .pointer (some ⟨g, 0, none⟩), .pointer (some ⟨b7, 0, none⟩)])] 88 (0, 0))) ∧ Aside0 (Below w0.heap.size w0 w') ∧ Aside0 (tree_All.Fr g w w'))
   case atStart => exact ⟨0, _, _, rfl, ⟨by omega⟩, HH, HG, HR, HI, H3, H7, HB, HF⟩
   case round =>
    clear HH HN HG HR HI H3 H7 HB HF z5; obtain ⟨i, o, vp, rfl, HK, HH, HG, HR, HI, H3, H7, HB, HF⟩ := hrel; by_cases hlt : i < n.f2.length
    ·have hd1 : decide ((i : Int) < (n.f2.length : Int)) = true := decide_eq_true (by omega); have H := HH.out; rw [List.drop_eq_getElem_cons hlt] at H; simp only [tree_All.kids] at H; obtain ⟨o', ho', Hn⟩ := Option.bind_eq_some_iff.mp H; clear H HH
     have hrd : rd_T26 n.f2 (i : Int) = n.f2[i] := (by simp [rd_T26, hlt])
     obtain ⟨ad, A3, c3, e, hx0, hx1, hx2, hx3, hl3, hC3⟩ := at_T26 HC.out (i : Int) (by omega) (by omega); rw [hrd] at hx0 hx1 hx2 hx3 hl3 hC3; rw [Int.toNat_natCast] at hx0 hx1 hx2 hx3; subst e; replace hx0 := (HB.out.cell (World.block_lt_of_cell? w0 _ hx0)).trans hx0; replace hx1 := (HB.out.cell (World.block_lt_of_cell? w0 _ hx1)).trans hx1; replace hx2 := (HB.out.cell (World.block_lt_of_cell? w0 _ hx2)).trans hx2; replace hx3 := (HB.out.cell (World.block_lt_of_cell? w0 _ hx3)).trans hx3; clear hrd; generalize n.f2[i] = x at *; have HO' := Aside0.mk ho'; have HH2 := Aside0.mk Hn; have HC3 := Aside0.mk (And.intro hC3 hl3); clear ho' Hn hC3 hl3
     cases gk with
     | zero => exact absurd hlt (by have := HK.out; omega)
     | succ kq' =>
     go_upto_region 6 with fail
     clear hx0 hx1 hx2 hx3 hd1
     have HW2 : Aside0 (Below wr.heap.size wr (wr.alloc (.cells #[.int .i64 x.f0, .int .i64 x.f1.f0, .string x.f1.f1, .slice A3 x.f2.length c3] 26))) := ⟨below_alloc (Below.refl _ _) _⟩
     have HX2 := Aside0.mk (blk_new wr (.cells #[.int .i64 x.f0, .int .i64 x.f1.f0, .string x.f1.f1, .slice A3 x.f2.length c3] 26))
     have HS2 : Aside0 ((wr.alloc (.cells #[.int .i64 x.f0, .int .i64 x.f1.f0, .string x.f1.f1, .slice A3 x.f2.length c3] 26)).heap.size = wr.heap.size + 1) := ⟨by simp⟩
     have HI2 := Aside0.mk (Kd.R_alloc HI.out (.cells #[.int .i64 x.f0, .int .i64 x.f1.f0, .string x.f1.f1, .slice A3 x.f2.length c3] 26)); generalize wr.alloc (.cells #[.int .i64 x.f0, .int .i64 x.f1.f0, .string x.f1.f1, .slice A3 x.f2.length c3] 26) = W2 at *; have f7 : W2.cell? ⟨b7, 0, none⟩ = some (.func (.func 56) #[] #[.pointer (some ⟨b3, 0, none⟩), .pointer (some ⟨g, 0, none⟩), .pointer (some ⟨b7, 0, none⟩)]) := Lib.cell_of_heap (blk_below H7.out HW2.out) 0; have f7a : (W2.alloc (.cells #[.int .i64 (i : Int)] 3)).cell? ⟨b7, 0, none⟩ = some (.func (.func 56) #[] #[.pointer (some ⟨b3, 0, none⟩), .pointer (some ⟨g, 0, none⟩), .pointer (some ⟨b7, 0, none⟩)]) := Lib.cell_of_heap (blk_alloc (blk_below H7.out HW2.out) _) 0; have y0 : W2.cell? ⟨wr.heap.size, 0, none⟩ = some (.int .i64 x.f0) := Lib.cell_of_heap HX2.out 0; have u0 : (W2.alloc (.cells #[.int .i64 (i : Int)] 3)).cell? ⟨wr.heap.size, 0, none⟩ = some (.int .i64 x.f0) := Lib.cell_of_heap (blk_alloc HX2.out _) 0; have y1 : W2.cell? ⟨wr.heap.size, 1, none⟩ = some (.int .i64 x.f1.f0) := Lib.cell_of_heap HX2.out 1; have u1 : (W2.alloc (.cells #[.int .i64 (i : Int)] 3)).cell? ⟨wr.heap.size, 1, none⟩ = some (.int .i64 x.f1.f0) := Lib.cell_of_heap (blk_alloc HX2.out _) 1; have y2 : W2.cell? ⟨wr.heap.size, 2, none⟩ = some (.string x.f1.f1) := Lib.cell_of_heap HX2.out 2; have u2 : (W2.alloc (.cells #[.int .i64 (i : Int)] 3)).cell? ⟨wr.heap.size, 2, none⟩ = some (.string x.f1.f1) := Lib.cell_of_heap (blk_alloc HX2.out _) 2; have y3 : W2.cell? ⟨wr.heap.size, 3, none⟩ = some (.slice A3 x.f2.length c3) := Lib.cell_of_heap HX2.out 3; have u3 : (W2.alloc (.cells #[.int .i64 (i : Int)] 3)).cell? ⟨wr.heap.size, 3, none⟩ = some (.slice A3 x.f2.length c3) := Lib.cell_of_heap (blk_alloc HX2.out _) 3; have KB := Aside0.mk (fun w5 (hb : Below W2.drew.heap.size W2.drew w5) => (show Below wr.heap.size wr w5 from HW2.out.trans ((below_drew1 (Below.refl W2.heap.size W2)).trans hb |>.mono HW2.out.size))); have hbs : w0.heap.size ≤ W2.drew.heap.size := Nat.le_trans HB.out.size HW2.out.size; have HLL := Aside0.mk (show here.length ≤ 1000000 by omega); clear hgl hsz hng hlo hlh hcc
     go_region_law (first | (refine tree_All.grow_step (W := W2.drew) (base := w0.heap.size) rfl (.tmp 33) (.tmp 35) rfl A2 c2 here (i : Int) (Kd.R_drew HI2.out) rfl W2.heap.size rfl rfl HLL.out hbs ?_; intro v5 w5 hr5 hb5; have f75 : w5.cell? ⟨b7, 0, none⟩ = some (.func (.func 56) #[] #[.pointer (some ⟨b3, 0, none⟩), .pointer (some ⟨g, 0, none⟩), .pointer (some ⟨b7, 0, none⟩)]) := Lib.cell_of_heap (blk_below H7.out (KB.out w5 hb5)) 0; have s0 : w5.cell? ⟨wr.heap.size, 0, none⟩ = some (.int .i64 x.f0) := Lib.cell_of_heap (blk_below (blk_drew HX2.out) hb5) 0; have s1 : w5.cell? ⟨wr.heap.size, 1, none⟩ = some (.int .i64 x.f1.f0) := Lib.cell_of_heap (blk_below (blk_drew HX2.out) hb5) 1; have s2 : w5.cell? ⟨wr.heap.size, 2, none⟩ = some (.string x.f1.f1) := Lib.cell_of_heap (blk_below (blk_drew HX2.out) hb5) 2; have s3 : w5.cell? ⟨wr.heap.size, 3, none⟩ = some (.slice A3 x.f2.length c3) := Lib.cell_of_heap (blk_below (blk_drew HX2.out) hb5) 3) | (go_simp; go_at_call 56; refine (IH.out x A3 c3 (here ++ [(i : Int)]) v5 o vp o' w5 HC3.out.2 HC3.out.1 hr5 (blk_below HG.out (KB.out w5 hb5)) (Kd.R_below HR.out (KB.out w5 hb5)) (blk_below H3.out (KB.out w5 hb5)) (blk_below H7.out (KB.out w5 hb5)) HNG.out.1 HNG.out.2.1 HNG.out.2.2 (HB.out.trans ((KB.out w5 hb5).mono HB.out.size)) HO'.out).mono ?_; rintro e w6 ⟨rfl, vo6, hg6, hr6, hb6, hf6⟩))
     all_goals
      have HFx := Aside0.mk (tree_All.Fr.trans (tree_All.Fr.below (g := g) (KB.out w5 hb5)) hf6); have HG6 := Aside0.mk hg6; have HR6 := Aside0.mk hr6; have HB6 := Aside0.mk hb6; clear f75 f7 f7a s0 s1 s2 s3 y0 y1 y2 y3 u0 u1 u2 u3 hr5 hb5 hg6 hr6 hb6 hf6 hbs; go_wp2_with fail
      go_roundg kq'
      case measure => omega
      case rel => exact ⟨i + 1, o', vo6, by go_num, ⟨by have := HK.out; omega⟩, HH2, HG6, HR6, ⟨tree_All.RI.fr HI.out HFx.out HG.out⟩, ⟨tree_All.Fr.blk HFx.out H3.out (by decide) HNG.out.2.1⟩, ⟨tree_All.Fr.blk HFx.out H7.out (by decide) HNG.out.2.2⟩, HB6, ⟨tree_All.Fr.trans HF.out HFx.out⟩⟩
    ·have hd1 : decide ((i : Int) < (n.f2.length : Int)) = false := decide_eq_false (by omega); have H := HH.out; rw [List.drop_of_length_le (by have := HK.out; omega)] at H; simp only [tree_All.kids, Option.some.injEq] at H; subst H; go_wp2_with fail; go_end0; exact ⟨rfl, vp, HG.out, HR.out, HB.out, HF.out⟩
theorem tree_All.run_store_func (P : Program) (w : World) (a : Addr) (f : Fn) (cs lb : Array Value) (m : Mode) : (store a (.func f cs lb) m).run P w = stored P w a (.func f cs lb) m := run_store P w a _ m rfl
attribute [local go_sem] tree_All.run_store_func
theorem tree_All.second (w : World) (o1 : Obj) (o2 : Obj) : Aside0 (((w.alloc o1).alloc o2).heap[w.heap.size + 1]? = some o2) := ⟨by
 have := blk_new (w.alloc o1) o2
 simpa using this⟩
set_option maxHeartbeats 8000000 in
set_option maxRecDepth 100000 in
theorem tree_All.calls (k : Nat) (a0_0 : Int) (a0_1 : Int) (a0_2 : ByteArray) (A0_3 : Option Addr) (c0_3 : Nat) (l0_3 : List (S26)) (a1 : Int) (r1 : List (List Int)) (r2 : Int) (w : World) (hr0_3 : Kd.C k26 w A0_3 l0_3.length l0_3) (hc0_3 : l0_3.length ≤ c0_3) (h : tree_All.f k a0_0 a0_1 a0_2 l0_3 a1 = some (r1, r2)) :
  Calls Try.prog 18 #[.agg #[.int .i64 a0_0, .int .i64 a0_1, .string a0_2, .slice A0_3 l0_3.length c0_3], .int .i64 a1] w fun e w' => ∃ v0_ : Value, e = .returned (.tuple #[v0_, .int .i64 r2]) ∧ Kd.R (Kd.slice 3 (Kd.int .i64)) 30 w' w.heap.size (fun _ => True) v0_ r1 ∧ Below w.heap.size w w' := by
 have hu := Try.underlying26; unfold tree_All.f at h; obtain ⟨b, hb, h⟩ := Option.bind_eq_some_iff.mp h; have HF := Aside0.mk hb; have HR := Aside0.mk hr0_3; have hB1 := below_alloc (below_alloc (Below.refl w.heap.size w) (.cells #[.int .i64 a0_0, .int .i64 a0_1, .string a0_2, .slice A0_3 l0_3.length c0_3] 26)) (.cells #[.int .i64 a1] 3); have HB := Aside0.mk hB1; have HN := Aside0.mk (blk_alloc (blk_new w (.cells #[.int .i64 a0_0, .int .i64 a0_1, .string a0_2, .slice A0_3 l0_3.length c0_3] 26)) (.cells #[.int .i64 a1] 3))
 have H3 : Aside0 (((w.alloc (.cells #[.int .i64 a0_0, .int .i64 a0_1, .string a0_2, .slice A0_3 l0_3.length c0_3] 26)).alloc (.cells #[.int .i64 a1] 3)).heap[w.heap.size + 1]? = some (.cells #[.int .i64 a1] 3 (0, 0))) := ⟨by
  have := blk_new (w.alloc (.cells #[.int .i64 a0_0, .int .i64 a0_1, .string a0_2, .slice A0_3 l0_3.length c0_3] 26)) (.cells #[.int .i64 a1] 3)
  simpa using this⟩
 clear hb hr0_3 hB1
 cases b with
 | false =>
  rw [if_neg (by decide)] at h; simp only [Option.some.injEq, Prod.mk.injEq] at h; obtain ⟨rfl, rfl⟩ := h; go_enter Try.func18, Try.ntmps18
  go_wp2_with (go_at_call 30; refine (tree_IsFormed.calls k _ _ _ _ _ _ _ _ (Kd.C_below HR.out HB.out) hc0_3 HF.out).mono ?_; rintro e w1 ⟨rfl, hb⟩; have HB1 := Aside0.mk (token_good.step HB.out hb); clear hb)
  go_ret2
  exact ⟨_, rfl, Kd.R_nil _ _ _ _ _, HB1.out⟩
 | true =>
  rw [if_pos rfl] at h; obtain ⟨l, hl, h⟩ := Option.bind_eq_some_iff.mp h; simp only [Option.some.injEq, Prod.mk.injEq] at h; obtain ⟨rfl, rfl⟩ := h; have HL := Aside0.mk hl; clear hl; go_enter Try.func18, Try.ntmps18
  go_wp2_with (go_at_call 30; refine (tree_IsFormed.calls k _ _ _ _ _ _ _ _ (Kd.C_below HR.out HB.out) hc0_3 HF.out).mono ?_; rintro e w1 ⟨rfl, hb⟩; have HB1 := Aside0.mk (token_good.step HB.out hb); have HN1 := Aside0.mk (blk_below HN.out hb); have H31 := Aside0.mk (blk_below H3.out hb); have z0 : w1.cell? ⟨w.heap.size, 0, none⟩ = some (.int .i64 a0_0) := Lib.cell_of_heap HN1.out 0; have z1 : w1.cell? ⟨w.heap.size, 1, none⟩ = some (.int .i64 a0_1) := Lib.cell_of_heap HN1.out 1; have z2 : w1.cell? ⟨w.heap.size, 2, none⟩ = some (.string a0_2) := Lib.cell_of_heap HN1.out 2; have z3 : w1.cell? ⟨w.heap.size, 3, none⟩ = some (.slice A0_3 l0_3.length c0_3) := Lib.cell_of_heap HN1.out 3; have HFb : Aside0 (((w1.alloc (.cells #[.slice none 0 0] 35)).alloc (.cells #[.nilFunc] 88)).heap[w1.heap.size + 1]? = some (.cells #[.nilFunc] 88 (0, 0))) := tree_All.second w1 _ _; have cF : ((w1.alloc (.cells #[.slice none 0 0] 35)).alloc (.cells #[.nilFunc] 88)).cell? ⟨w1.heap.size + 1, 0, none⟩ = some .nilFunc := Lib.cell_of_heap HFb.out 0; have fF := Lib.frozen_of_heap HFb.out 0; have hsz : w.heap.size + 2 ≤ w1.heap.size := (by have hq := hb.size; simp at hq; omega); have q0 : ((w1.alloc (.cells #[.slice none 0 0] 35)).alloc (.cells #[(.func (.func 56) #[] #[.pointer (some ⟨w.heap.size + 1, 0, none⟩), .pointer (some ⟨w1.heap.size, 0, none⟩), .pointer (some ⟨w1.heap.size + 1, 0, none⟩)])] 88)).cell? ⟨w.heap.size, 0, none⟩ = some (.int .i64 a0_0) := Lib.cell_of_heap (blk_alloc (blk_alloc HN1.out _) _) 0; have q1 : ((w1.alloc (.cells #[.slice none 0 0] 35)).alloc (.cells #[(.func (.func 56) #[] #[.pointer (some ⟨w.heap.size + 1, 0, none⟩), .pointer (some ⟨w1.heap.size, 0, none⟩), .pointer (some ⟨w1.heap.size + 1, 0, none⟩)])] 88)).cell? ⟨w.heap.size, 1, none⟩ = some (.int .i64 a0_1) := Lib.cell_of_heap (blk_alloc (blk_alloc HN1.out _) _) 1; have q2 : ((w1.alloc (.cells #[.slice none 0 0] 35)).alloc (.cells #[(.func (.func 56) #[] #[.pointer (some ⟨w.heap.size + 1, 0, none⟩), .pointer (some ⟨w1.heap.size, 0, none⟩), .pointer (some ⟨w1.heap.size + 1, 0, none⟩)])] 88)).cell? ⟨w.heap.size, 2, none⟩ = some (.string a0_2) := Lib.cell_of_heap (blk_alloc (blk_alloc HN1.out _) _) 2; have q3 : ((w1.alloc (.cells #[.slice none 0 0] 35)).alloc (.cells #[(.func (.func 56) #[] #[.pointer (some ⟨w.heap.size + 1, 0, none⟩), .pointer (some ⟨w1.heap.size, 0, none⟩), .pointer (some ⟨w1.heap.size + 1, 0, none⟩)])] 88)).cell? ⟨w.heap.size, 3, none⟩ = some (.slice A0_3 l0_3.length c0_3) := Lib.cell_of_heap (blk_alloc (blk_alloc HN1.out _) _) 3; have HCall := Aside0.mk (tree_All.walk_ok w a1 w1.heap.size (w.heap.size + 1) (w1.heap.size + 1) k ⟨a0_0, ⟨a0_1, a0_2⟩, l0_3⟩ A0_3 c0_3 [] (.slice none 0 0) [] (.slice none 0 0) l ((w1.alloc (.cells #[.slice none 0 0] 35)).alloc (.cells #[(.func (.func 56) #[] #[.pointer (some ⟨w.heap.size + 1, 0, none⟩), .pointer (some ⟨w1.heap.size, 0, none⟩), .pointer (some ⟨w1.heap.size + 1, 0, none⟩)])] 88)) hc0_3 HR.out (Kd.R_nil _ _ _ _ _) (blk_alloc (blk_new w1 _) _) (Kd.R_nil _ _ _ _ _) (blk_alloc (blk_alloc H31.out _) _) (tree_All.second w1 _ _).out (by omega) (by omega) (by omega) (below_alloc (below_alloc HB1.out _) _) HL.out); clear hb)
  refine HCall.out.mono ?_; rintro e w9 ⟨rfl, v9, h1, h2, h3, h4⟩; have e9 : w9.cell? ⟨w1.heap.size, 0, none⟩ = some v9 := Lib.cell_of_heap h1 0; have H2 := Aside0.mk h2; have H3 := Aside0.mk h3; clear h1 h2 h3 h4; go_wp2_with fail
  go_ret2
  exact ⟨_, rfl, H2.out, H3.out⟩

end Go.Proofs.Ytnafnieocpkkhaa.P

namespace Go.Proofs.Ytnafnieocpkkhaa.P
open Go.RowKit Go.Proofs.YtnafnieocpkkhaaW.PrintWords Go.Proofs.YtnafnieocpkkhaaW.PrintLast Go.Proofs.YtnafnieocpkkhaaW.PrintMore
attribute [local go_sem] max2_int min2_int max_two min_two max_three min_three max_four min_four
set_option linter.unusedVariables false
set_option linter.unusedSimpArgs false

/-! ### marginaliaref05_Ints: function 23 -/
def marginaliaref05_Ints.l0 : Nat → List Int → List Int → Int → Option (Bool)
 | 0, _, _, _ => none
 | k + 1, x0, x1, x5 => if x5 < (x0.length : Int) then (if 0 ≤ x5 then (if x5 < (x1.length : Int) then (if (rd x0 x5) = (rd x1 x5) then (marginaliaref05_Ints.l0 k x0 x1 (wrap64 (x5 + 1))) else (some false)) else (none)) else (none)) else (some true)
def marginaliaref05_Ints.f (k : Nat) (l0 : List Int) (l1 : List Int) : Option (Bool) := if (l0.length : Int) = (l1.length : Int) then (marginaliaref05_Ints.l0 k l0 l1 0) else (some false)
set_option maxHeartbeats 8000000 in
set_option maxRecDepth 100000 in
theorem marginaliaref05_Ints.calls (k : Nat) (A0 : Option Addr) (c0 : Nat) (l0 : List Int) (A1 : Option Addr) (c1 : Nat) (l1 : List Int) (r : Bool) (w : World) (hr0 : Kd.C (Kd.int .i64) w A0 l0.length l0) (hc0 : l0.length ≤ c0) (hr1 : Kd.C (Kd.int .i64) w A1 l1.length l1) (hc1 : l1.length ≤ c1) (h : marginaliaref05_Ints.f k l0 l1 = some r) :
  Calls Try.prog 23 #[.slice A0 l0.length c0, .slice A1 l1.length c1] w fun e w' => e = .returned (.bool r) ∧ Drawn0 w w' := by
 have HR0 := Aside0.mk hr0; have HC0 := Aside0.mk hc0; clear hr0 hc0; have HR1 := Aside0.mk hr1; have HC1 := Aside0.mk hc1; clear hr1 hc1; have H : (if (l0.length : Int) = (l1.length : Int) then (marginaliaref05_Ints.l0 k l0 l1 0) else (some false)) = some r := h; clear h; by_cases c3 : (l0.length : Int) = (l1.length : Int)
 ·rw [if_pos c3] at H; have c3b0 : ((l0.length : Int) == (l1.length : Int)) = true := beq_iff_eq.mpr c3; have c3b1 : ((l0.length : Int) != (l1.length : Int)) = false := bne_eq_false_iff_eq.mpr c3
  have c3b2 : (l0.length == l1.length) = true := (by first | simpa using c3 | (simp at c3 ⊢; omega))
  clear c3; have H' := Aside0.mk H; clear H; go_enter Try.func23, Try.ntmps23; go_wp2
  repeat (go_quiet (fail); try go_wp2)
  go_loopg [5] k (fun kq v5 w' => ∃ (x5_1 : Int), v5 = .int .i64 x5_1 ∧ Aside0 (marginaliaref05_Ints.l0 kq l0 l1 x5_1 = some r) ∧ Aside0 (kq ≤ k) ∧ Drawn0 w w')
  case atStart => exact ⟨(0), zs, H', ⟨Nat.le_refl _⟩, zX⟩
  case round =>
   clear H'; obtain ⟨x5_1, rfl, HA, HK1, ⟨m1, rfl⟩⟩ := hrel
   cases gk with
   | zero => exact absurd HA.out (by simp [marginaliaref05_Ints.l0])
   | succ k1 =>
    have H := HA.out; clear HA; simp only [marginaliaref05_Ints.l0] at H; by_cases c4 : x5_1 < (l0.length : Int)
    ·rw [if_pos c4] at H; have c4b0 := decide_eq_true c4; clear c4; replace H := zi1 H; obtain ⟨c5b0, H⟩ := H; replace H := zi1 H; obtain ⟨c6b0, H⟩ := H; by_cases c7 : (rd l0 x5_1) = (rd l1 x5_1)
     ·rw [if_pos c7] at H; have c7b0 : ((rd l0 x5_1) == (rd l1 x5_1)) = true := beq_iff_eq.mpr c7; have c7b1 : ((rd l0 x5_1) != (rd l1 x5_1)) = false := bne_eq_false_iff_eq.mpr c7; clear c7; have H' := Aside0.mk H; clear H; have p230 : 0 ≤ (x5_1 : Int) := zt; have q230 : x5_1 < (l0.length : Int) := zt; obtain ⟨ad230, e230, hx230_0⟩ := Kd.at_int HR0.out x5_1 p230 q230
      cases e230
      replace p230 := eq_true p230; replace q230 := eq_true q230; have p231 : 0 ≤ (x5_1 : Int) := zt; have q231 : x5_1 < (l1.length : Int) := zt; obtain ⟨ad231, e231, hx231_0⟩ := Kd.at_int HR1.out x5_1 p231 q231
      cases e231
      replace p231 := eq_true p231; replace q231 := eq_true q231; go_wp2
      repeat (go_quiet (fail); try go_wp2)
      go_roundg k1
      case measure => have := HK1.out; omega
      case rel => exact ⟨(wrap64 (x5_1 + 1)), zs, H', zk, zX⟩
     ·rw [if_neg c7] at H; have c7b0 : ((rd l0 x5_1) == (rd l1 x5_1)) = false := beq_eq_false_iff_ne.mpr c7; have c7b1 : ((rd l0 x5_1) != (rd l1 x5_1)) = true := bne_iff_ne.mpr c7; obtain rfl := Option.some.inj H; have p230 : 0 ≤ (x5_1 : Int) := zt; have q230 : x5_1 < (l0.length : Int) := zt; obtain ⟨ad230, e230, hx230_0⟩ := Kd.at_int HR0.out x5_1 p230 q230
      cases e230
      replace p230 := eq_true p230; replace q230 := eq_true q230; have p231 : 0 ≤ (x5_1 : Int) := zt; have q231 : x5_1 < (l1.length : Int) := zt; obtain ⟨ad231, e231, hx231_0⟩ := Kd.at_int HR1.out x5_1 p231 q231
      cases e231
      replace p231 := eq_true p231; replace q231 := eq_true q231; go_wp2
      repeat (go_quiet (fail); try go_wp2)
      go_ret; exact ⟨zs, zX⟩
    ·rw [if_neg c4] at H; have c4b0 := decide_eq_false c4; clear c4; obtain rfl := Option.some.inj H; go_wp2
     repeat (go_quiet (fail); try go_wp2)
     go_ret; exact ⟨zs, zX⟩
 ·rw [if_neg c3] at H; have c3b0 : ((l0.length : Int) == (l1.length : Int)) = false := beq_eq_false_iff_ne.mpr c3; have c3b1 : ((l0.length : Int) != (l1.length : Int)) = true := bne_iff_ne.mpr c3
  have c3b2 : (l0.length == l1.length) = false := (by first | simpa using c3 | (simp at c3 ⊢; omega))
  obtain rfl := Option.some.inj H; go_enter Try.func23, Try.ntmps23; go_wp2
  repeat (go_quiet (fail); try go_wp2)
  go_ret; exact ⟨zs, zX⟩

end Go.Proofs.Ytnafnieocpkkhaa.P

namespace Go.Proofs.Ytnafnieocpkkhaa.P
open Go.RowKit Go.Proofs.YtnafnieocpkkhaaW.PrintWords Go.Proofs.YtnafnieocpkkhaaW.PrintLast Go.Proofs.YtnafnieocpkkhaaW.PrintMore
attribute [local go_sem] max2_int min2_int max_two min_two max_three min_three max_four min_four
set_option linter.unusedVariables false
set_option linter.unusedSimpArgs false

def marginalialaw05_sample.lf (k : Int) (b : UInt8) : S26 := ⟨1, ⟨k, ⟨#[b]⟩⟩, []⟩
def marginalialaw05_sample.nm (b : UInt8) : S26 := ⟨23, ⟨0, ⟨#[]⟩⟩, [marginalialaw05_sample.lf 3 b]⟩
def marginalialaw05_sample.ar : S26 := ⟨22, ⟨0, ⟨#[]⟩⟩, [marginalialaw05_sample.lf 7 40, marginalialaw05_sample.nm 120, marginalialaw05_sample.lf 1 32, marginalialaw05_sample.lf 7 41]⟩
def marginalialaw05_sample.kids : List (S26) := [marginalialaw05_sample.nm 102, marginalialaw05_sample.ar]
def marginalialaw05_sample.f : Option (Int × Int × ByteArray × List (S26)) := some (21, 0, ⟨#[]⟩, marginalialaw05_sample.kids)
theorem marginalialaw05_sample.l40 : marginalialaw05_leaf.f 60 ⟨#[40]⟩ = some (1, 7, ⟨#[40]⟩, []) := by kernel_rfl
theorem marginalialaw05_sample.l120 : marginalialaw05_leaf.f 60 ⟨#[120]⟩ = some (1, 3, ⟨#[120]⟩, []) := by kernel_rfl
theorem marginalialaw05_sample.l32 : marginalialaw05_leaf.f 60 ⟨#[32]⟩ = some (1, 1, ⟨#[32]⟩, []) := by kernel_rfl
theorem marginalialaw05_sample.l41 : marginalialaw05_leaf.f 60 ⟨#[41]⟩ = some (1, 7, ⟨#[41]⟩, []) := by kernel_rfl
theorem marginalialaw05_sample.l102 : marginalialaw05_leaf.f 60 ⟨#[102]⟩ = some (1, 3, ⟨#[102]⟩, []) := by kernel_rfl
/-- A literal of elements that the call has made. -/
theorem marginalialaw05_sample.lit {α : Type} (d : Kd α) {W : World} {base e : Nat} {xs : List α} {inner : List Value} (hrep : Reps (d.M W base (fun _ => True)) d.sz xs inner) (hbase : base ≤ W.heap.size) (hm : xs.length ≤ 1000) : d.R e (W.alloc (.cells inner.toArray e)) base (fun _ => True) (.slice (some ⟨W.heap.size, 0, none⟩) xs.length xs.length) xs := by
 refine ⟨fun _ _ => trivial, inner, ?_, ?_⟩
 ·have h2 := World.ownsRow_lit (base := base) (e := e) (size := d.sz) W inner.toArray xs.length hbase (by unfold maxLen; omega) (by simpa using hrep.1)
  simpa using h2
 ·refine hrep.imp_ (fun p c hp => d.M_mono (fun k hk => ⟨trivial, fun he => ?_⟩) (Kd.M_below (d.M_bound hp) (below_alloc (Below.refl _ _) _)))
  have h3 : k = W.heap.size := (by simpa [Value.ownBlock] using he)
  have := hk.2.2.1
  omega
/-- A leaf's cells, in a later world. -/
theorem marginalialaw05_sample.leafM {w W : World} {base : Nat} {k : Int} {b : UInt8} {v : Value} (h : Kd.R k26 26 w base (fun _ => True) v []) (hb : Below w.heap.size w W) : (k26).M W base (fun _ => True) (marginalialaw05_sample.lf k b) [.int .i64 1, .int .i64 k, .string ⟨#[b]⟩, v] := k26_mkM W base _ (marginalialaw05_sample.lf k b) (Kd.R_below h hb)
set_option maxHeartbeats 8000000 in
set_option maxRecDepth 100000 in
theorem marginalialaw05_sample.calls (r1 : Int) (r2 : Int) (r3 : ByteArray) (r4 : List (S26)) (w : World) (h : marginalialaw05_sample.f = some (r1, r2, r3, r4)) :
  Calls Try.prog 44 #[] w fun e w' => ∃ v3_ : Value, e = .returned (.agg #[.int .i64 r1, .int .i64 r2, .string r3, v3_]) ∧ Kd.R k26 26 w' w.heap.size (fun _ => True) v3_ r4 ∧ Below w.heap.size w w' := by
 have hu := Try.underlying26; simp only [marginalialaw05_sample.f, Option.some.injEq, Prod.mk.injEq] at h; obtain ⟨rfl, rfl, rfl, rfl⟩ := h; have HB0 := Aside0.mk (Below.refl (w.alloc (.cells #[.int .i64 0, .int .i64 0, .string (⟨#[]⟩ : ByteArray), .slice none 0 0] 26)).heap.size (w.alloc (.cells #[.int .i64 0, .int .i64 0, .string (⟨#[]⟩ : ByteArray), .slice none 0 0] 26))); have HG0 := Aside0.mk (blk_new w (.cells #[.int .i64 0, .int .i64 0, .string (⟨#[]⟩ : ByteArray), .slice none 0 0] 26))
 have HS0 : Aside0 ((w.alloc (.cells #[.int .i64 0, .int .i64 0, .string (⟨#[]⟩ : ByteArray), .slice none 0 0] 26)).heap.size = w.heap.size + 1) := ⟨by simp⟩
 have HWB := Aside0.mk (below_alloc (Below.refl w.heap.size w) (.cells #[.int .i64 0, .int .i64 0, .string (⟨#[]⟩ : ByteArray), .slice none 0 0] 26)); generalize hw0 : w.alloc (.cells #[.int .i64 0, .int .i64 0, .string (⟨#[]⟩ : ByteArray), .slice none 0 0] 26) = w0 at *; have HW0 := Aside0.mk hw0; clear hw0; go_enter Try.func44, Try.ntmps44
 go_upto_region 1 with fail
 rw [HW0.out]; go_wp2_with fail; refine (marginalialaw05_leaf.calls 60 _ _ _ _ _ _ marginalialaw05_sample.l40).mono ?_; rintro e w1 ⟨v, rfl, hR, hb⟩; obtain ⟨A1, c1, hv, _, _⟩ := Kd.R_reads hR; subst hv; have HR1_1 := Aside0.mk (Kd.R_lower hR HB0.out.size); have HB1 := Aside0.mk (token_good.step HB0.out hb); have HG1 := Aside0.mk (blk_below HG0.out hb); clear hR hb HB0 HG0; go_wp2_with fail; refine (marginalialaw05_leaf.calls 60 _ _ _ _ _ _ marginalialaw05_sample.l120).mono ?_; rintro e w2 ⟨v, rfl, hR, hb⟩; obtain ⟨A2, c2, hv, _, _⟩ := Kd.R_reads hR; subst hv; have HR2_2 := Aside0.mk (Kd.R_lower hR HB1.out.size); have HB2 := Aside0.mk (token_good.step HB1.out hb); have HG2 := Aside0.mk (blk_below HG1.out hb); have HR1_2 := Aside0.mk (Kd.R_below HR1_1.out hb); clear hR hb HB1 HG1 HR1_1; have HRx_2 := Aside0.mk (marginalialaw05_sample.lit (e := 26) k26 (W := w2) (base := w0.heap.size) (xs := [marginalialaw05_sample.lf 3 120]) (inner := [.int .i64 1, .int .i64 3, .string ⟨#[120]⟩, .slice A2 0 c2]) (show Reps _ 4 _ _ from by simpa using Reps.snoc (Reps.none _ _) (marginalialaw05_sample.leafM (b := 120) HR2_2.out (Below.refl _ _)) rfl) HB2.out.size (by simp)); go_wp2_with fail; refine (marginalialaw05_leaf.calls 60 _ _ _ _ _ _ marginalialaw05_sample.l32).mono ?_; rintro e w3 ⟨v, rfl, hR, hb⟩; obtain ⟨A3, c3, hv, _, _⟩ := Kd.R_reads hR; subst hv; have HR3_3 := Aside0.mk (Kd.R_lower hR (below_alloc HB2.out (.cells #[.int .i64 1, .int .i64 3, .string ⟨#[120]⟩, .slice A2 0 c2] 26)).size); have HB3 := Aside0.mk (token_good.step (below_alloc HB2.out (.cells #[.int .i64 1, .int .i64 3, .string ⟨#[120]⟩, .slice A2 0 c2] 26)) hb); have HG3 := Aside0.mk (blk_below (blk_alloc HG2.out (.cells #[.int .i64 1, .int .i64 3, .string ⟨#[120]⟩, .slice A2 0 c2] 26)) hb); have HR1_3 := Aside0.mk (Kd.R_below (Kd.R_alloc HR1_2.out (.cells #[.int .i64 1, .int .i64 3, .string ⟨#[120]⟩, .slice A2 0 c2] 26)) hb); have HRx_3 := Aside0.mk (Kd.R_below HRx_2.out hb); clear hR hb HB2 HG2 HR1_2 HRx_2; go_wp2_with fail; refine (marginalialaw05_leaf.calls 60 _ _ _ _ _ _ marginalialaw05_sample.l41).mono ?_; rintro e w4 ⟨v, rfl, hR, hb⟩; obtain ⟨A4, c4, hv, _, _⟩ := Kd.R_reads hR; subst hv; have HR4_4 := Aside0.mk (Kd.R_lower hR HB3.out.size); have HB4 := Aside0.mk (token_good.step HB3.out hb); have HG4 := Aside0.mk (blk_below HG3.out hb); have HR1_4 := Aside0.mk (Kd.R_below HR1_3.out hb); have HRx_4 := Aside0.mk (Kd.R_below HRx_3.out hb); have HR3_4 := Aside0.mk (Kd.R_below HR3_3.out hb); clear hR hb HB3 HG3 HR1_3 HRx_3 HR3_3; have HRy_4 := Aside0.mk (marginalialaw05_sample.lit (e := 26) k26 (W := w4) (base := w0.heap.size) (xs := marginalialaw05_sample.ar.f2) (inner := [.int .i64 1, .int .i64 7, .string ⟨#[40]⟩, .slice A1 0 c1, .int .i64 23, .int .i64 0, .string (⟨#[]⟩ : ByteArray), .slice (some ⟨w2.heap.size, 0, none⟩) 1 1, .int .i64 1, .int .i64 1, .string ⟨#[32]⟩, .slice A3 0 c3, .int .i64 1, .int .i64 7, .string ⟨#[41]⟩, .slice A4 0 c4]) (show Reps _ 4 _ _ from by simpa [marginalialaw05_sample.ar, marginalialaw05_sample.nm] using Reps.snoc (Reps.snoc (Reps.snoc (Reps.snoc (Reps.none _ _) (marginalialaw05_sample.leafM (b := 40) HR1_4.out (Below.refl _ _)) rfl) (k26_mkM w4 w0.heap.size _ (marginalialaw05_sample.nm 120) HRx_4.out) rfl) (marginalialaw05_sample.leafM (b := 32) HR3_4.out (Below.refl _ _)) rfl) (marginalialaw05_sample.leafM (b := 41) HR4_4.out (Below.refl _ _)) rfl) HB4.out.size (by simp [marginalialaw05_sample.ar])); go_wp2_with fail; have HB5 := Aside0.mk (below_alloc (below_alloc HB4.out (.cells #[.int .i64 1, .int .i64 7, .string ⟨#[40]⟩, .slice A1 0 c1, .int .i64 23, .int .i64 0, .string (⟨#[]⟩ : ByteArray), .slice (some ⟨w2.heap.size, 0, none⟩) 1 1, .int .i64 1, .int .i64 1, .string ⟨#[32]⟩, .slice A3 0 c3, .int .i64 1, .int .i64 7, .string ⟨#[41]⟩, .slice A4 0 c4] 26)) (.cells #[.int .i64 22, .int .i64 0, .string (⟨#[]⟩ : ByteArray), .slice (some ⟨w4.heap.size, 0, none⟩) 4 4] 26)); have HG5 := Aside0.mk (blk_alloc (blk_alloc HG4.out (.cells #[.int .i64 1, .int .i64 7, .string ⟨#[40]⟩, .slice A1 0 c1, .int .i64 23, .int .i64 0, .string (⟨#[]⟩ : ByteArray), .slice (some ⟨w2.heap.size, 0, none⟩) 1 1, .int .i64 1, .int .i64 1, .string ⟨#[32]⟩, .slice A3 0 c3, .int .i64 1, .int .i64 7, .string ⟨#[41]⟩, .slice A4 0 c4] 26)) (.cells #[.int .i64 22, .int .i64 0, .string (⟨#[]⟩ : ByteArray), .slice (some ⟨w4.heap.size, 0, none⟩) 4 4] 26))
 have HA5 : Aside0 (((w4.alloc (.cells #[.int .i64 1, .int .i64 7, .string ⟨#[40]⟩, .slice A1 0 c1, .int .i64 23, .int .i64 0, .string (⟨#[]⟩ : ByteArray), .slice (some ⟨w2.heap.size, 0, none⟩) 1 1, .int .i64 1, .int .i64 1, .string ⟨#[32]⟩, .slice A3 0 c3, .int .i64 1, .int .i64 7, .string ⟨#[41]⟩, .slice A4 0 c4] 26)).alloc (.cells #[.int .i64 22, .int .i64 0, .string (⟨#[]⟩ : ByteArray), .slice (some ⟨w4.heap.size, 0, none⟩) 4 4] 26)).heap[w4.heap.size + 1]? = some (.cells #[.int .i64 22, .int .i64 0, .string (⟨#[]⟩ : ByteArray), .slice (some ⟨w4.heap.size, 0, none⟩) 4 4] 26 (0, 0))) := ⟨by
  have := blk_new (w4.alloc (.cells #[.int .i64 1, .int .i64 7, .string ⟨#[40]⟩, .slice A1 0 c1, .int .i64 23, .int .i64 0, .string (⟨#[]⟩ : ByteArray), .slice (some ⟨w2.heap.size, 0, none⟩) 1 1, .int .i64 1, .int .i64 1, .string ⟨#[32]⟩, .slice A3 0 c3, .int .i64 1, .int .i64 7, .string ⟨#[41]⟩, .slice A4 0 c4] 26)) (.cells #[.int .i64 22, .int .i64 0, .string (⟨#[]⟩ : ByteArray), .slice (some ⟨w4.heap.size, 0, none⟩) 4 4] 26)
  simpa using this⟩
 have HR5 := Aside0.mk (Kd.R_alloc HRy_4.out (.cells #[.int .i64 22, .int .i64 0, .string (⟨#[]⟩ : ByteArray), .slice (some ⟨w4.heap.size, 0, none⟩) 4 4] 26)); clear HB4 HG4 HRy_4 HR1_4 HRx_4 HR3_4 HR4_4 HR2_2; generalize ((w4.alloc (.cells #[.int .i64 1, .int .i64 7, .string ⟨#[40]⟩, .slice A1 0 c1, .int .i64 23, .int .i64 0, .string (⟨#[]⟩ : ByteArray), .slice (some ⟨w2.heap.size, 0, none⟩) 1 1, .int .i64 1, .int .i64 1, .string ⟨#[32]⟩, .slice A3 0 c3, .int .i64 1, .int .i64 7, .string ⟨#[41]⟩, .slice A4 0 c4] 26)).alloc (.cells #[.int .i64 22, .int .i64 0, .string (⟨#[]⟩ : ByteArray), .slice (some ⟨w4.heap.size, 0, none⟩) 4 4] 26)) = W5 at *; have q0 : W5.cell? ⟨w4.heap.size + 1, 0, none⟩ = some (.int .i64 22) := Lib.cell_of_heap HA5.out 0; have q1 : W5.cell? ⟨w4.heap.size + 1, 1, none⟩ = some (.int .i64 0) := Lib.cell_of_heap HA5.out 1; have q2 : W5.cell? ⟨w4.heap.size + 1, 2, none⟩ = some (.string (⟨#[]⟩ : ByteArray)) := Lib.cell_of_heap HA5.out 2; have q3 : W5.cell? ⟨w4.heap.size + 1, 3, none⟩ = some (.slice (some ⟨w4.heap.size, 0, none⟩) 4 4) := Lib.cell_of_heap HA5.out 3
 go_region_law (go_simp; go_at_call 42; refine (marginalialaw05_leaf.calls 60 _ _ _ _ _ _ marginalialaw05_sample.l102).mono ?_; rintro e w6 ⟨v6, rfl, hR6, hb6⟩; obtain ⟨A6, c6, hv6, _, _⟩ := Kd.R_reads hR6; subst hv6; have hA6 := blk_below (blk_drew HA5.out) hb6; have hG6 := blk_alloc (blk_alloc (blk_below (blk_drew HG5.out) hb6) (.cells #[.int .i64 1, .int .i64 3, .string ⟨#[102]⟩, .slice A6 0 c6] 26)) (.cells #[.int .i64 23, .int .i64 0, .string (⟨#[]⟩ : ByteArray), .slice (some ⟨w6.heap.size, 0, none⟩) 1 1, .int .i64 22, .int .i64 0, .string (⟨#[]⟩ : ByteArray), .slice (some ⟨w4.heap.size, 0, none⟩) 4 4] 26); have p0 : w6.cell? ⟨w4.heap.size + 1, 0, none⟩ = some (.int .i64 22) := Lib.cell_of_heap hA6 0; have s0 : (w6.alloc (.cells #[.int .i64 1, .int .i64 3, .string ⟨#[102]⟩, .slice A6 0 c6] 26)).cell? ⟨w4.heap.size + 1, 0, none⟩ = some (.int .i64 22) := Lib.cell_of_heap (blk_alloc hA6 _) 0; have d0 : ((w6.alloc (.cells #[.int .i64 1, .int .i64 3, .string ⟨#[102]⟩, .slice A6 0 c6] 26)).alloc (.cells #[.int .i64 23, .int .i64 0, .string (⟨#[]⟩ : ByteArray), .slice (some ⟨w6.heap.size, 0, none⟩) 1 1, .int .i64 22, .int .i64 0, .string (⟨#[]⟩ : ByteArray), .slice (some ⟨w4.heap.size, 0, none⟩) 4 4] 26)).cell? ⟨w.heap.size, 0, none⟩ = some (.int .i64 0) := Lib.cell_of_heap hG6 0; have f0 := Lib.frozen_of_heap hG6 0; have p1 : w6.cell? ⟨w4.heap.size + 1, 1, none⟩ = some (.int .i64 0) := Lib.cell_of_heap hA6 1; have s1 : (w6.alloc (.cells #[.int .i64 1, .int .i64 3, .string ⟨#[102]⟩, .slice A6 0 c6] 26)).cell? ⟨w4.heap.size + 1, 1, none⟩ = some (.int .i64 0) := Lib.cell_of_heap (blk_alloc hA6 _) 1; have d1 : ((w6.alloc (.cells #[.int .i64 1, .int .i64 3, .string ⟨#[102]⟩, .slice A6 0 c6] 26)).alloc (.cells #[.int .i64 23, .int .i64 0, .string (⟨#[]⟩ : ByteArray), .slice (some ⟨w6.heap.size, 0, none⟩) 1 1, .int .i64 22, .int .i64 0, .string (⟨#[]⟩ : ByteArray), .slice (some ⟨w4.heap.size, 0, none⟩) 4 4] 26)).cell? ⟨w.heap.size, 1, none⟩ = some (.int .i64 0) := Lib.cell_of_heap hG6 1; have f1 := Lib.frozen_of_heap hG6 1; have p2 : w6.cell? ⟨w4.heap.size + 1, 2, none⟩ = some (.string (⟨#[]⟩ : ByteArray)) := Lib.cell_of_heap hA6 2; have s2 : (w6.alloc (.cells #[.int .i64 1, .int .i64 3, .string ⟨#[102]⟩, .slice A6 0 c6] 26)).cell? ⟨w4.heap.size + 1, 2, none⟩ = some (.string (⟨#[]⟩ : ByteArray)) := Lib.cell_of_heap (blk_alloc hA6 _) 2; have d2 : ((w6.alloc (.cells #[.int .i64 1, .int .i64 3, .string ⟨#[102]⟩, .slice A6 0 c6] 26)).alloc (.cells #[.int .i64 23, .int .i64 0, .string (⟨#[]⟩ : ByteArray), .slice (some ⟨w6.heap.size, 0, none⟩) 1 1, .int .i64 22, .int .i64 0, .string (⟨#[]⟩ : ByteArray), .slice (some ⟨w4.heap.size, 0, none⟩) 4 4] 26)).cell? ⟨w.heap.size, 2, none⟩ = some (.string (⟨#[]⟩ : ByteArray)) := Lib.cell_of_heap hG6 2; have f2 := Lib.frozen_of_heap hG6 2; have p3 : w6.cell? ⟨w4.heap.size + 1, 3, none⟩ = some (.slice (some ⟨w4.heap.size, 0, none⟩) 4 4) := Lib.cell_of_heap hA6 3; have s3 : (w6.alloc (.cells #[.int .i64 1, .int .i64 3, .string ⟨#[102]⟩, .slice A6 0 c6] 26)).cell? ⟨w4.heap.size + 1, 3, none⟩ = some (.slice (some ⟨w4.heap.size, 0, none⟩) 4 4) := Lib.cell_of_heap (blk_alloc hA6 _) 3; have d3 : ((w6.alloc (.cells #[.int .i64 1, .int .i64 3, .string ⟨#[102]⟩, .slice A6 0 c6] 26)).alloc (.cells #[.int .i64 23, .int .i64 0, .string (⟨#[]⟩ : ByteArray), .slice (some ⟨w6.heap.size, 0, none⟩) 1 1, .int .i64 22, .int .i64 0, .string (⟨#[]⟩ : ByteArray), .slice (some ⟨w4.heap.size, 0, none⟩) 4 4] 26)).cell? ⟨w.heap.size, 3, none⟩ = some (.slice none 0 0) := Lib.cell_of_heap hG6 3; have f3 := Lib.frozen_of_heap hG6 3)
 all_goals
  have HB6 := Aside0.mk (token_good.step (below_drew1 HB5.out) hb6); have HR6 := Aside0.mk (marginalialaw05_sample.lit (e := 26) k26 (W := w6) (base := w0.heap.size) (xs := [marginalialaw05_sample.lf 3 102]) (inner := [.int .i64 1, .int .i64 3, .string ⟨#[102]⟩, .slice A6 0 c6]) (show Reps _ 4 _ _ from by simpa using Reps.snoc (Reps.none _ _) (marginalialaw05_sample.leafM (b := 102) (Kd.R_lower hR6 (below_drew1 HB5.out).size) (Below.refl _ _)) rfl) HB6.out.size (by simp)); have HRy := Aside0.mk (Kd.R_alloc (Kd.R_below (Kd.R_drew HR5.out) hb6) (.cells #[.int .i64 1, .int .i64 3, .string ⟨#[102]⟩, .slice A6 0 c6] 26)); have HB7 := Aside0.mk (below_alloc HB6.out (.cells #[.int .i64 1, .int .i64 3, .string ⟨#[102]⟩, .slice A6 0 c6] 26))
  have HS7 : Aside0 ((w6.alloc (.cells #[.int .i64 1, .int .i64 3, .string ⟨#[102]⟩, .slice A6 0 c6] 26)).heap.size = w6.heap.size + 1) := ⟨by simp⟩
  have HK := Aside0.mk (marginalialaw05_sample.lit (e := 26) k26 (W := w6.alloc (.cells #[.int .i64 1, .int .i64 3, .string ⟨#[102]⟩, .slice A6 0 c6] 26)) (base := w0.heap.size) (xs := marginalialaw05_sample.kids) (inner := [.int .i64 23, .int .i64 0, .string (⟨#[]⟩ : ByteArray), .slice (some ⟨w6.heap.size, 0, none⟩) 1 1, .int .i64 22, .int .i64 0, .string (⟨#[]⟩ : ByteArray), .slice (some ⟨w4.heap.size, 0, none⟩) 4 4]) (show Reps _ 4 _ _ from by simpa [marginalialaw05_sample.kids, marginalialaw05_sample.ar, marginalialaw05_sample.nm] using Reps.snoc (Reps.snoc (Reps.none _ _) (k26_mkM (w6.alloc (.cells #[.int .i64 1, .int .i64 3, .string ⟨#[102]⟩, .slice A6 0 c6] 26)) w0.heap.size _ (marginalialaw05_sample.nm 102) HR6.out) rfl) (k26_mkM (w6.alloc (.cells #[.int .i64 1, .int .i64 3, .string ⟨#[102]⟩, .slice A6 0 c6] 26)) w0.heap.size _ marginalialaw05_sample.ar HRy.out) rfl) HB7.out.size (by simp [marginalialaw05_sample.kids])); have HGz := Aside0.mk hG6; go_wp2_with fail
  have HK2 : Kd.R k26 26 ((w6.alloc (.cells #[.int .i64 1, .int .i64 3, .string ⟨#[102]⟩, .slice A6 0 c6] 26)).alloc (.cells #[.int .i64 23, .int .i64 0, .string (⟨#[]⟩ : ByteArray), .slice (some ⟨w6.heap.size, 0, none⟩) 1 1, .int .i64 22, .int .i64 0, .string (⟨#[]⟩ : ByteArray), .slice (some ⟨w4.heap.size, 0, none⟩) 4 4] 26)) w0.heap.size (fun _ => True) (.slice (some ⟨w6.heap.size + 1, 0, none⟩) 2 2) marginalialaw05_sample.kids := by
   have hk := HK.out; rw [HS7.out] at hk; exact hk
  have hok : ∀ k, w0.heap.size ≤ k → k ≠ w.heap.size := fun k hk => by have := HS0.out; omega
  refine bodyPost_ret (results_cell_row rfl _ _ w.heap.size 26 #[.int .i64 21, .int .i64 0, .string (⟨#[]⟩ : ByteArray), .slice (some ⟨w6.heap.size + 1, 0, none⟩) 2 2] (0, 0) _ rfl (by refine blk_put (cs := #[.int .i64 21, .int .i64 0, .string (⟨#[]⟩ : ByteArray), .slice none 0 0]) ?_ 3 _ rfl; refine blk_put (cs := #[.int .i64 21, .int .i64 0, .string (⟨#[]⟩ : ByteArray), .slice none 0 0]) ?_ 2 _ rfl; refine blk_put (cs := #[.int .i64 21, .int .i64 0, .string (⟨#[]⟩ : ByteArray), .slice none 0 0]) ?_ 1 _ rfl; refine blk_put (cs := #[.int .i64 0, .int .i64 0, .string (⟨#[]⟩ : ByteArray), .slice none 0 0]) ?_ 0 _ rfl; exact HGz.out) Try.underlying26 rfl (by kernel_rfl)) rfl ?_; refine ⟨_, rfl, Kd.R_mono (Kd.R_lower (Kd.R_far (p := ⟨w.heap.size, 3, none⟩) (Kd.R_far (p := ⟨w.heap.size, 2, none⟩) (Kd.R_far (p := ⟨w.heap.size, 1, none⟩) (Kd.R_far (p := ⟨w.heap.size, 0, none⟩) (Kd.R_mono (Kd.R_bound HK2) (fun k hk => hk.2.1)) hok _) hok _) hok _) hok _) HWB.out.size) (fun _ _ => trivial), ?_⟩; exact below_set (below_set (below_set (below_set (HWB.out.trans ((below_alloc HB7.out (.cells #[.int .i64 23, .int .i64 0, .string (⟨#[]⟩ : ByteArray), .slice (some ⟨w6.heap.size, 0, none⟩) 1 1, .int .i64 22, .int .i64 0, .string (⟨#[]⟩ : ByteArray), .slice (some ⟨w4.heap.size, 0, none⟩) 4 4] 26)).mono HWB.out.size)) (Nat.le_refl _)) (Nat.le_refl _)) (Nat.le_refl _)) (Nat.le_refl _)


end Go.Proofs.Ytnafnieocpkkhaa.P

namespace Go.Proofs.Ytnafnieocpkkhaa.P
open Go.RowKit Go.Proofs.YtnafnieocpkkhaaW.PrintWords Go.Proofs.YtnafnieocpkkhaaW.PrintLast Go.Proofs.YtnafnieocpkkhaaW.PrintMore
attribute [local go_sem] max2_int min2_int max_two min_two max_three min_three max_four min_four
set_option linter.unusedVariables false
set_option linter.unusedSimpArgs false

def marginalialaw05_alive.f : Option (Bool) := some true
theorem marginalialaw05_alive.e1 : tree_Text.f 60 21 0 ⟨#[]⟩ marginalialaw05_sample.kids = some (⟨#[102, 40, 120, 32, 41]⟩, 0) := by kernel_rfl
theorem marginalialaw05_alive.e2 : tree_Find.f 60 21 0 ⟨#[]⟩ marginalialaw05_sample.kids 2 = some ([1, 1, 0], 0) := by kernel_rfl
theorem marginalialaw05_alive.e3 : tree_Cover.f 60 21 0 ⟨#[]⟩ marginalialaw05_sample.kids 2 4 = some ([1], 0) := by kernel_rfl
theorem marginalialaw05_alive.e4 : tree_Count.f 60 21 0 ⟨#[]⟩ marginalialaw05_sample.kids = some (9, 3, 0) := by kernel_rfl
theorem marginalialaw05_alive.e5 : tree_All.f 60 21 0 ⟨#[]⟩ marginalialaw05_sample.kids 23 = some ([[0], [1, 1]], 0) := by kernel_rfl
theorem marginalialaw05_alive.e6 : tree_IsFormed.f 60 21 0 ⟨#[]⟩ marginalialaw05_sample.kids = some true := by kernel_rfl
theorem marginalialaw05_alive.e7 : marginaliaref05_Ints.f 60 [1, 1, 0] [1, 1, 0] = some true := by kernel_rfl
theorem marginalialaw05_alive.e8 : marginaliaref05_Ints.f 60 [1] [1] = some true := by kernel_rfl
theorem marginalialaw05_alive.lit (W : World) (g : Nat) (l : List Int) (cs : Array Value) (hcs : cs = (l.map (Value.int .i64)).toArray) (hl : l.length ≤ 1000) (hb : W.heap[g]? = some (.cells cs 3 (0, 0))) : Kd.C (Kd.int .i64) W (some ⟨g, 0, none⟩) l.length l := by
 subst hcs; refine ⟨rfl, by omega, fun _ => ⟨_, rfl, fun j p hj => ⟨[.int .i64 p], rfl, rfl, fun i u hu => ?_⟩⟩⟩
 have hi : i = 0 := by
  rcases i with _ | i
  ·rfl
  ·simp at hu
 subst hi; simp only [List.getElem?_cons_zero, Option.some.injEq] at hu; subst hu; rw [show (⟨g, 0, none⟩ : Addr).add (j * (Kd.int .i64).sz + 0) = ⟨g, j, none⟩ by show (⟨g, 0, none⟩ : Addr).add (j * 1 + 0) = _; unfold Addr.add; simp; try omega, Lib.cell_of_heap hb]
 simp [hj]
set_option maxHeartbeats 8000000 in
set_option maxRecDepth 100000 in
theorem marginalialaw05_alive.calls (r : Bool) (w : World) (h : marginalialaw05_alive.f = some r) :
  Calls Try.prog 20 #[] w fun e w' => e = .returned (.bool r) ∧ Below w.heap.size w w' := by
 have hu := Try.underlying26; simp only [marginalialaw05_alive.f, Option.some.injEq] at h; subst h; have HB0 := Aside0.mk (Below.refl w.heap.size w); go_enter Try.func20, Try.ntmps20; go_wp2_with fail; refine (marginalialaw05_sample.calls _ _ _ _ _ rfl).mono ?_; rintro e w1 ⟨v, rfl, hN, hb⟩; have HB1 := Aside0.mk (token_good.step HB0.out hb); have HN := Aside0.mk hN; obtain ⟨A, c, hv, hc, hC⟩ := Kd.R_reads hN; subst hv; have HC := Aside0.mk hC; clear hb hN hC HB0; go_wp2_with fail; refine (tree_Text.calls 60 _ _ _ _ _ _ _ _ _ HC.out hc marginalialaw05_alive.e1).mono ?_; rintro e w2 ⟨rfl, hb⟩; have HB2 := Aside0.mk (token_good.step HB1.out hb); clear hb HB1 HN HC hc; go_wp2_with fail; refine (marginalialaw05_sample.calls _ _ _ _ _ rfl).mono ?_; rintro e w3 ⟨v, rfl, hN, hb⟩; have HB3 := Aside0.mk (token_good.step HB2.out hb); have HN := Aside0.mk hN; obtain ⟨A, c, hv, hc, hC⟩ := Kd.R_reads hN; subst hv; have HC := Aside0.mk hC; clear hb hN hC HB2; go_wp2_with fail; refine (tree_Find.calls 60 _ _ _ _ _ _ _ _ _ _ HC.out hc marginalialaw05_alive.e2).mono ?_; rintro e w4 ⟨v, rfl, hR, hb⟩; have HB4 := Aside0.mk (token_good.step HB3.out hb); obtain ⟨A3, c3, hv, hc3, hC3⟩ := Kd.R_reads hR; subst hv; have HC3 := Aside0.mk hC3; have T3_4 := Aside0.mk (Below.refl w4.heap.size w4); clear hR hC3 hb HB3 HN HC hc; go_wp2_with fail; refine (marginalialaw05_sample.calls _ _ _ _ _ rfl).mono ?_; rintro e w5 ⟨v, rfl, hN, hb⟩; have HB5 := Aside0.mk (token_good.step HB4.out hb); have T3_5 := Aside0.mk (token_good.step T3_4.out hb); have HN := Aside0.mk hN; obtain ⟨A, c, hv, hc, hC⟩ := Kd.R_reads hN; subst hv; have HC := Aside0.mk hC; clear hb hN hC HB4; go_wp2_with fail; refine (tree_Cover.calls 60 _ _ _ _ _ _ _ _ _ _ _ HC.out hc marginalialaw05_alive.e3).mono ?_; rintro e w6 ⟨v, rfl, hR, hb⟩; have HB6 := Aside0.mk (token_good.step HB5.out hb); have T3_6 := Aside0.mk (token_good.step T3_5.out hb); obtain ⟨A5, c5, hv, hc5, hC5⟩ := Kd.R_reads hR; subst hv; have HC5 := Aside0.mk hC5; have T5_6 := Aside0.mk (Below.refl w6.heap.size w6); clear hR hC5 hb HB5 HN HC hc; go_wp2_with fail; refine (marginalialaw05_sample.calls _ _ _ _ _ rfl).mono ?_; rintro e w7 ⟨v, rfl, hN, hb⟩; have HB7 := Aside0.mk (token_good.step HB6.out hb); have T3_7 := Aside0.mk (token_good.step T3_6.out hb); have T5_7 := Aside0.mk (token_good.step T5_6.out hb); have HN := Aside0.mk hN; obtain ⟨A, c, hv, hc, hC⟩ := Kd.R_reads hN; subst hv; have HC := Aside0.mk hC; clear hb hN hC HB6; go_wp2_with fail; refine (tree_Count.calls 60 _ _ _ _ _ _ _ _ _ _ HC.out hc marginalialaw05_alive.e4).mono ?_; rintro e w8 ⟨rfl, hb⟩; have HB8 := Aside0.mk (token_good.step HB7.out hb); have T3_8 := Aside0.mk (token_good.step T3_7.out hb); have T5_8 := Aside0.mk (token_good.step T5_7.out hb); clear hb HB7 HN HC hc; go_wp2_with fail; refine (marginalialaw05_sample.calls _ _ _ _ _ rfl).mono ?_; rintro e w9 ⟨v, rfl, hN, hb⟩; have HB9 := Aside0.mk (token_good.step HB8.out hb); have T3_9 := Aside0.mk (token_good.step T3_8.out hb); have T5_9 := Aside0.mk (token_good.step T5_8.out hb); have HN := Aside0.mk hN; obtain ⟨A, c, hv, hc, hC⟩ := Kd.R_reads hN; subst hv; have HC := Aside0.mk hC; clear hb hN hC HB8; go_wp2_with fail; refine (tree_All.calls 60 _ _ _ _ _ _ _ _ _ _ HC.out hc marginalialaw05_alive.e5).mono ?_; rintro e w10 ⟨v, rfl, hR, hb⟩; have HB10 := Aside0.mk (token_good.step HB9.out hb); have T3_10 := Aside0.mk (token_good.step T3_9.out hb); have T5_10 := Aside0.mk (token_good.step T5_9.out hb); obtain ⟨A7, c7, hv, _, _⟩ := Kd.R_reads hR; subst hv; clear hR hb HB9 HN HC hc; go_wp2_with fail; refine (marginalialaw05_sample.calls _ _ _ _ _ rfl).mono ?_; rintro e w11 ⟨v, rfl, hN, hb⟩; have HB11 := Aside0.mk (token_good.step HB10.out hb); have T3_11 := Aside0.mk (token_good.step T3_10.out hb); have T5_11 := Aside0.mk (token_good.step T5_10.out hb); have HN := Aside0.mk hN; obtain ⟨A, c, hv, hc, hC⟩ := Kd.R_reads hN; subst hv; have HC := Aside0.mk hC; clear hb hN hC HB10; go_wp2_with fail
 refine (tree_IsFormed.calls 60 _ _ _ _ _ _ _ _ HC.out hc marginalialaw05_alive.e6).mono ?_; rintro e w12 ⟨rfl, hb⟩; have HB12 := Aside0.mk (token_good.step HB11.out hb); have T3_12 := Aside0.mk (token_good.step T3_11.out hb); have T5_12 := Aside0.mk (token_good.step T5_11.out hb); clear hb HB11 HN HC hc; have HD3 := Aside0.mk (Kd.C_below HC3.out T3_12.out); have HD5 := Aside0.mk (Kd.C_below HC5.out T5_12.out); clear HC3 HC5 T3_12 T5_12; have h110 : ([1, 1, 0] : List Int).length = 3 := rfl; go_wp2_with fail; refine (marginaliaref05_Ints.calls 60 A3 c3 [1, 1, 0] (some ⟨w12.heap.size, 0, none⟩) 3 [1, 1, 0] true _ (Kd.C_below HD3.out (below_alloc (Below.refl _ _) _)) hc3 (marginalialaw05_alive.lit _ w12.heap.size [1, 1, 0] _ rfl (by simp) (blk_new _ _)) (Nat.le_refl _) marginalialaw05_alive.e7).mono ?_; rintro e w13 ⟨rfl, hd⟩; have hb := d0below hd; have HB13 := Aside0.mk (token_good.step (below_alloc HB12.out _) hb); have HE5 := Aside0.mk (Kd.C_below HD5.out (token_good.step (below_alloc (Below.refl w12.heap.size w12) _) hb)); clear hd hb HB12 HD3 HD5; go_wp2_with fail; refine (marginaliaref05_Ints.calls 60 A5 c5 [1] (some ⟨w13.heap.size, 0, none⟩) 1 [1] true _ (Kd.C_below HE5.out (below_alloc (Below.refl _ _) _)) hc5 (marginalialaw05_alive.lit _ w13.heap.size [1] _ rfl (by simp) (blk_new _ _)) (Nat.le_refl _) marginalialaw05_alive.e8).mono ?_; rintro e w14 ⟨rfl, hd⟩; have hb := d0below hd; have HB14 := Aside0.mk (token_good.step (below_alloc HB13.out _) hb); clear hd hb HB13 HE5; go_wp2_with fail; go_ret; exact ⟨rfl, HB14.out⟩

end Go.Proofs.Ytnafnieocpkkhaa.P

